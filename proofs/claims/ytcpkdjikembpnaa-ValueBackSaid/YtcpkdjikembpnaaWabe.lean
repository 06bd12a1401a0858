/- Parts of the proof of ValueBack: Ib, Ic. No condition of its own. -/
import Derived.Test.YtcpkdjikembpnaaWaax
import Derived.Test.YtcpkdjikembpnaaWabb
set_option linter.unusedVariables false
set_option linter.unusedSimpArgs false
set_option maxRecDepth 1000000
set_option maxHeartbeats 4000000
namespace Go.Proofs.Ytcpkdjikembpnaa.Ce
section
open Go.RowKit
theorem same_p1 (kd i:Int) (s:List UInt8) (l:List V):sameV (.mk kd i s l false) (.mk kd i [] [] false)=(decide (s=[]) && decide (l.length=0)):=by
 rw [Bool.eq_iff_iff,sameV_iff];simp [V.mk.injEq]
theorem same_p3 (kd i:Int) (s:List UInt8) (l:List V):sameV (.mk kd i s l false) (.mk kd 0 s [] false)=(decide (i=0) && decide (l.length=0)):=by
 rw [Bool.eq_iff_iff,sameV_iff];simp [V.mk.injEq]
theorem all_at {α:Type} (l:List α) (f:α→Bool) (p:Nat→Bool) (hp:∀ j (hj:j<l.length),p j = !f l[j]):(!l.all f)=false↔∀ j,j<l.length→p j=false:=by
 constructor
 ·intro h j hj
  have h2:l.all f=true:=by simpa using h
  rw [hp j hj,List.all_eq_true.1 h2 _ (List.getElem_mem hj)]
  rfl
 ·intro h
  have h2:l.all f=true:=List.all_eq_true.2 fun x hx=>by
   obtain ⟨j,hj,rfl⟩:=List.getElem_of_mem hx
   have:=h j hj
   rw [hp j hj] at this
   simpa using this
  rw [h2]
  rfl
theorem st_fn {lim:Nat} {h:Hp} {n id off g:Nat} {i1 i2 i3:Nat} (hl:lim≤id):mStore Try.prog lim 130 (.pointer (some ⟨id,off,none⟩)) (.func (.func g) ⟨[]⟩ ⟨[.pointer (some ⟨i1,0,none⟩),.pointer (some ⟨i2,0,none⟩),.pointer (some ⟨i3,0,none⟩)]⟩) h n=(rwOf h id).bind fun r=>(overAt off [.func (.func g) ⟨[]⟩ ⟨[.pointer (some ⟨i1,0,none⟩),.pointer (some ⟨i2,0,none⟩),.pointer (some ⟨i3,0,none⟩)]⟩] r.2).bind fun cs'=>some ⟨undef,h.set id (.row r.1 false cs'),n,[],[id]⟩:=m_st1 kz hl rfl rfl
variable (k:Nat)
theorem fits_ev (hk:30000≤k) (TA:Option Addr) (T:List Tp) (tc:Nat):∀ (N t:Nat) (v:V) (dp:Nat),OkV T t→Bd N v→dp≤3→∀ (d cl:Nat) (h:Hp) (n:Nat) (cs:List Value),TabH h n TA T→VH h n v cs →
  SQ k (d+5*N+10) cl 51 [.slice TA T.length tc,.int .i64 t,.agg ⟨cs⟩,.int .i64 dp] h n fun w h' n'=>w = .bool (fitP T N t v dp)∧h=h'∧n=n':=by
 intro N
 induction N with
 | zero=>intro t v dp _ hb;exact absurd hb (by unfold Bd;exact id)
 | succ N ih=>
 intro t v dp ho hb hdp d cl h n cs hT hv
 rw [show d+5*(N+1)+10=d+5*N+14+1 from by omega]
 have htl:=ho.lt
 have hfi:=ho.chk.2.1 t htl
 have hkd:=fine_kd hfi
 have hfd:=hT.fd _ (List.getElem_mem htl)
 have hpt:=fun e=>ho.ptr e
 have hpl:=prt_len ho
 have hpi:=fun q (a:q<(prtT T[t]).length) (b:q<(offsT T T[t]).length)=>prt_in ho a b
 obtain ⟨tid,toff,hTA,htid,hti, -⟩:=hT.at_ htl
 subst hTA
 obtain ⟨A1,cc1,rfl,hA1,hl1⟩:=hv.cut
 obtain ⟨hb1,hb2⟩:=hb
 obtain ⟨vk,i,s,l,c⟩:=v
 simp only [V.kd,V.i,V.s,V.l,V.c] at hl1 hv hb1 hb2 ⊢
 rw [fitP,List.getElem?_eq_getElem htl]
 dsimp only
 have psm:∀ (w:V) (h6:Hp) (n6:Nat) (cs cs':List Value),VH h6 n6 (.mk vk i s l c) cs→VH h6 n6 w cs'→SQ k (d+5*N+14) n 24 [.agg ⟨cs⟩,.agg ⟨cs'⟩] h6 n6 fun x h' n'=>x = .bool (sameV (.mk vk i s l c) w)∧h6=h'∧n6=n':=fun w h6 n6 cs cs' a b=>by
  have:=(psamev_ev k hk (N+1) (.mk vk i s l c) w (d+3*N+12) n h6 n6 cs cs' ⟨hb1,hb2⟩ a b).mono (Φ':=fun x h' n'=>x = .bool (sameV (.mk vk i s l c) w)∧h6=h'∧n6=n') fun _ _ _ hp=>⟨hp.1,hp.2.1.symm,hp.2.2.symm⟩
  rw [show d+3*N+12+2*(N+1)=d+5*N+14 from by omega] at this
  exact this
 have hzp:∀ q (hq:q<(prtT T[t]).length),∃ y:Nat,(prtT T[t])[q]=(y:Int)∧OkV T y:=fun q hq=>by
  obtain ⟨y,e, -,b, -⟩:=hpi q hq zm
  exact ⟨y,e,b⟩
 obtain ⟨x,hx⟩:∃ x,T[t]=x:=⟨_,rfl⟩
 simp only [hx] at hfi hkd hfd hpt hpl hzp hti ⊢
 clear hpi
 by_cases e0:vk≠x.kd∨c=true
 ·rw [if_pos e0]
  obtain ⟨kd,el,ln,fs,FA,fc⟩:=x
  dsimp only at e0 hti
  by_cases e1:vk=kd
  ·have hc:c=true:=e0.resolve_left (not_not_intro e1)
   rw [hc,e1]
   refine enter Try.func51 kz rfl kz rfl rfl rfl ?_
   (repeat' first|refine zcd ?_|intro K' hK|(with_reducible refine zn hK ?_;clear hK)|fail|((with_reducible first|apply zo1|apply zo2|apply o_guard rfl|apply x_cond|apply k_e1 rfl|apply k_e2 rfl|apply k_e0 rfl|apply k_e3 rfl|apply k_e4 rfl);(case he=>exact ez2 @st_fn hti);(try case hok=>exact ezO);all_goals try (intro hb;(try simp only [hbs,reduceCtorEq] at hb);try exact ezX))|((with_reducible apply o_undef rfl);(case hb=>exact ez0)))
   all_goals exact sw_flat rfl rfl ⟨rfl,rfl,rfl⟩
  ·refine enter Try.func51 kz rfl kz rfl rfl rfl ?_
   (repeat' first|refine zcd ?_|intro K' hK|(with_reducible refine zn hK ?_;clear hK)|fail|((with_reducible first|apply zo1|apply zo2|apply o_guard rfl|apply x_cond|apply k_e1 rfl|apply k_e2 rfl|apply k_e0 rfl|apply k_e3 rfl|apply k_e4 rfl);(case he=>exact ez2 @st_fn hti);(try case hok=>exact ezO);all_goals try (intro hb;(try simp only [hbs,reduceCtorEq] at hb);try exact ezX))|((with_reducible apply o_undef rfl);(case hb=>exact ez0)))
   all_goals exact sw_flat rfl rfl ⟨rfl,rfl,rfl⟩
 rw [if_neg e0]
 obtain ⟨hvk,hvc⟩:vk=x.kd∧c=false:=⟨Classical.byContradiction fun hh=>e0 (.inl hh),by cases hcc:c with
  | false=>rfl
  | true=>exact absurd (.inr hcc) e0⟩
 clear e0
 obtain ⟨kd,el,ln,fs,FA,fc⟩:=x
 dsimp only at hvk ⊢
 subst hvk
 subst hvc
 have hck:vk=1∨vk=2∨vk=3∨vk=4∨vk=7∨vk=5∨vk=6:=by dsimp only at hkd;omega
 dsimp only at hti hpt hpl hzp hfd
 have qC:∀ (fG:FuncId) (lm:Nat) (hf:∀ (d cl:Nat) (h:Hp) (n i11 i7 i4 i9:Nat),rowOf h i11=some (130,false,[.func (.func 88) ⟨[]⟩ ⟨[.pointer (some ⟨i7,0,none⟩),.pointer (some ⟨i4,0,none⟩),.pointer (some ⟨i9,0,none⟩)]⟩])→i11<n→∀ (v:V) (cs:List Value),VH h n v cs→∀ B:Bool,
   (∀ (cl:Nat) (h6:Hp) (n6:Nat) (cs:List Value),(∀ b,b<n→h6.get b=h.get b)→n≤n6→VH h6 n6 v cs→SQ k d cl 88 [.agg ⟨cs⟩,.pointer (some ⟨i7,0,none⟩),.pointer (some ⟨i4,0,none⟩),.pointer (some ⟨i9,0,none⟩)] h6 n6 fun v h' n'=>v = .bool B∧h6=h'∧n6=n') →
   SQ k (d+1) cl fG [.agg ⟨cs⟩,.pointer (some ⟨i11,0,none⟩)] h n fun v h' n'=>v = .bool (!B)∧h=h'∧n=n') (h47:vk=4∨vk=7)
   (h6:Hp) (n6 i11 i7 i4 i9:Nat),rowOf h6 i11=some (130,false,[.func (.func 88) ⟨[]⟩ ⟨[.pointer (some ⟨i7,0,none⟩),.pointer (some ⟨i4,0,none⟩),.pointer (some ⟨i9,0,none⟩)]⟩]) →
   rowOf h6 i7=some (3,false,[.int .i64 dp])→rowOf h6 i4=some (22,false,[.slice (some ⟨tid,toff,none⟩) T.length tc])→rowOf h6 i9=some (64,false,[.int .u8 vk,.int .i64 el,.int .i64 ln,.slice FA fs.length fc])→i11<n6→i7<n6→i4<n6→i9<n6→TabH h6 n6 (some ⟨tid,toff,none⟩) T→LH h6 n6 A1 l →
   SQ k (d+5*N+14) n 89 [.slice A1 l.length cc1,.func (.func fG) ⟨[]⟩ ⟨[.pointer (some ⟨i11,0,none⟩)]⟩] h6 n6 fun v h' n'=>v = .bool (!l.all fun e=>decide (0<dp) && fitP T N el.toNat e (dp - 1))∧h6=h'∧n6=n':=by
  intro fG _ hf h47 h6 n6 i11 i7 i4 i9 r11 r7 r4 r9 l11 l7 l4 l9 hT6 hL6
  obtain ⟨y,hy,hoy⟩:=hpt h47
  subst hy
  rw [Int.toNat_natCast]
  obtain ⟨p,hp⟩:∃ p:Nat→Bool,∀ j (hj:j<l.length),p j = !(decide (0<dp) && fitP T N y l[j] (dp - 1)):=⟨fun j=>if hj:j<l.length then !(decide (0<dp) && fitP T N y l[j] (dp - 1)) else false,fun j hj=>by dsimp only;rw [dif_pos hj]⟩
  refine cfuncV_ev k (d+5*N+12) n h6 n6 hk fG _ A1 l cc1 hL6 hb1 p _ (all_at l _ p hp) fun j hj cl cs hvj=>?_
  rw [hp j hj]
  refine hf (d+5*N+11) cl h6 n6 i11 i7 i4 i9 r11 l11 _ cs hvj _ fun cl h7 n7 cs' hk7 hn7 hv7=>?_
  refine fit1_ev k (d+5*N+10) cl h7 n7 (some ⟨tid,toff,none⟩) T tc ((hT6.keep (Nat.le_refl _) hk7).more hn7) i7 i4 i9 dp ⟨vk,y,ln,fs,FA,fc⟩ y rfl (by rw [rowOf_keep (hk7 _ l7)];exact r7) (by rw [rowOf_keep (hk7 _ l4)];exact r4) (by rw [rowOf_keep (hk7 _ l9)];exact r9) zm zm zm hdp _ cs' hv7 _ fun h0 cl h8 n8 cs8 hT8 hv8=>?_
  exact ih y l[j] (dp - 1) hoy (hb2 _ (List.getElem_mem hj)) zm d cl h8 n8 cs8 hT8 hv8
 have q2:=qC 90 0 (fun d cl h n i11 i7 i4 i9 r11 h11 v cs hv B=>fit2_ev k d cl h n i11 i7 i4 i9 r11 h11 v cs hv B)
 have q3:=qC 91 0 (fun d cl h n i11 i7 i4 i9 r11 h11 v cs hv B=>fit3_ev k d cl h n i11 i7 i4 i9 r11 h11 v cs hv B)
 clear qC
 rcases hck with rfl|rfl|rfl|rfl|rfl|hc56
 ·clear q2 q3
  rw [if_pos rfl]
  have ps:=psm (.mk 1 i [] [] false)
  simp only [same_p1] at ps
  rw [← Bool.and_assoc]
  obtain ⟨S,hS⟩:∃ S,(decide (s=[]) && decide (l.length=0))=S:=⟨_,rfl⟩
  simp only [hS] at ps ⊢
  cases S
  all_goals
   refine enter Try.func51 kz rfl kz rfl rfl rfl ?_
   (repeat' first|refine zcd ?_|intro K' hK|(with_reducible refine zn hK ?_;clear hK)|((with_reducible apply o_callF (g:=24) w_none);(case ha=>exact ez0);(case hs=>((with_reducible apply ps);(all_goals first|exact VH.leaf 1 i [] false none 0 (fun _=>rfl)|((refine VH.more (B:=n) ?_ zm);(repeat' first|exact hv|refine VH.set ?_ zm _)))));(case' hk=>rintro _ h' n' ⟨rfl,rfl,rfl⟩))|((with_reducible first|apply zo1|apply zo2|apply o_guard rfl|apply x_cond|apply k_e1 rfl|apply k_e2 rfl|apply k_e0 rfl|apply k_e3 rfl|apply k_e4 rfl);(case he=>exact ez2 @st_fn hti);(try case hok=>exact ezO);all_goals try (intro hb;(try simp only [hbs,reduceCtorEq] at hb);try exact ezX))|((with_reducible apply o_undef rfl);(case hb=>exact ez0)))
   all_goals exact sw_flat rfl rfl ⟨(by first|rfl|(congr 1;done)|(congr 1;by_cases a0:i=0 <;> by_cases a1:i=1 <;> first|omega|(simp [a0,a1];done)|(simp [a0,a1];omega))),rfl,rfl⟩
 ·clear q2 q3
  rw [if_neg (by decide),if_pos rfl]
  have ps:=psm (.mk 2 i [] [] false)
  simp only [same_p1] at ps
  skip
  obtain ⟨S,hS⟩:∃ S,(decide (s=[]) && decide (l.length=0))=S:=⟨_,rfl⟩
  simp only [hS] at ps ⊢
  cases S
  all_goals
   refine enter Try.func51 kz rfl kz rfl rfl rfl ?_
   (repeat' first|refine zcd ?_|intro K' hK|(with_reducible refine zn hK ?_;clear hK)|((with_reducible apply o_callF (g:=24) w_none);(case ha=>exact ez0);(case hs=>((with_reducible apply ps);(all_goals first|exact VH.leaf 2 i [] false none 0 (fun _=>rfl)|((refine VH.more (B:=n) ?_ zm);(repeat' first|exact hv|refine VH.set ?_ zm _)))));(case' hk=>rintro _ h' n' ⟨rfl,rfl,rfl⟩))|((with_reducible first|apply zo1|apply zo2|apply o_guard rfl|apply x_cond|apply k_e1 rfl|apply k_e2 rfl|apply k_e0 rfl|apply k_e3 rfl|apply k_e4 rfl);(case he=>exact ez2 @st_fn hti);(try case hok=>exact ezO);all_goals try (intro hb;(try simp only [hbs,reduceCtorEq] at hb);try exact ezX))|((with_reducible apply o_undef rfl);(case hb=>exact ez0)))
   all_goals exact sw_flat rfl rfl ⟨(by first|rfl|(congr 1;done)|(congr 1;by_cases a0:s.length≤64 <;> first|omega|(simp [a0];done)|(simp [a0];omega))),rfl,rfl⟩
 ·clear q2 q3
  rw [if_neg (by decide),if_neg (by decide),if_pos rfl]
  have ps:=psm (.mk 3 0 s [] false)
  simp only [same_p3] at ps
  rw [← Bool.and_assoc]
  obtain ⟨S,hS⟩:∃ S,(decide (i=0) && decide (l.length=0))=S:=⟨_,rfl⟩
  simp only [hS] at ps ⊢
  cases S
  all_goals
   refine enter Try.func51 kz rfl kz rfl rfl rfl ?_
   (repeat' first|refine zcd ?_|intro K' hK|(with_reducible refine zn hK ?_;clear hK)|((with_reducible apply o_callF (g:=24) w_none);(case ha=>exact ez0);(case hs=>((with_reducible apply ps);(all_goals first|exact VH.leaf 3 0 s false none 0 (fun _=>rfl)|((refine VH.more (B:=n) ?_ zm);(repeat' first|exact hv|refine VH.set ?_ zm _)))));(case' hk=>rintro _ h' n' ⟨rfl,rfl,rfl⟩))|((with_reducible first|apply zo1|apply zo2|apply o_guard rfl|apply x_cond|apply k_e1 rfl|apply k_e2 rfl|apply k_e0 rfl|apply k_e3 rfl|apply k_e4 rfl);(case he=>exact ez2 @st_fn hti);(try case hok=>exact ezO);all_goals try (intro hb;(try simp only [hbs,reduceCtorEq] at hb);try exact ezX))|((with_reducible apply o_undef rfl);(case hb=>exact ez0)))
   all_goals exact sw_flat rfl rfl ⟨(by first|rfl|(congr 1;done)|(congr 1;by_cases a0:s.length≤64 <;> first|omega|(simp [a0];done)|(simp [a0];omega))),rfl,rfl⟩
 ·clear psm
  rw [if_neg (by decide),if_neg (by decide),if_neg (by decide),if_pos rfl]
  have qq:=q2 (.inl rfl)
  clear q2 q3
  obtain ⟨X,hX⟩:∃ X,(l.all fun e=>decide (0<dp) && fitP T N el.toNat e (dp - 1))=X:=⟨_,rfl⟩
  simp only [hX] at qq ⊢
  by_cases hi:i=0
  ·subst hi
   by_cases hs:s=[]
   ·subst hs
    by_cases hll:l.length≤1
    ·have eR:(decide ((0:Int)=0) && (decide (([]:List UInt8)=[]) && (decide (l.length≤1) && X))) = !(!X):=by simp [hll]
     rw [eR]
     refine enter Try.func51 kz rfl kz rfl rfl rfl ?_
     (repeat' first|refine zcd ?_|intro K' hK|(with_reducible refine zn hK ?_;clear hK)|((with_reducible apply o_callF (g:=89) w_none);(case ha=>exact ez0);(case hs=>((with_reducible apply qq);(all_goals first|omega|exact ezT hT|exact ezL hl1|exact ez0)));(case' hk=>rintro _ h' n' ⟨rfl,rfl,rfl⟩))|((with_reducible first|apply zo1|apply zo2|apply o_guard rfl|apply x_cond|apply k_e1 rfl|apply k_e2 rfl|apply k_e0 rfl|apply k_e3 rfl|apply k_e4 rfl);(case he=>exact ez4 @st_fn hti @b_strEql @b_self);(try case hok=>exact ezO);all_goals try (intro hb;(try simp only [hbs,reduceCtorEq] at hb);try exact ezX))|((with_reducible apply o_undef rfl);(case hb=>exact ez0)))
     all_goals exact sw_flat rfl rfl ⟨rfl,rfl,rfl⟩
    ·have eR:(decide ((0:Int)=0) && (decide (([]:List UInt8)=[]) && (decide (l.length≤1) && X)))=false:=by simp [hll]
     rw [eR]
     refine enter Try.func51 kz rfl kz rfl rfl rfl ?_
     (repeat' first|refine zcd ?_|intro K' hK|(with_reducible refine zn hK ?_;clear hK)|fail|((with_reducible first|apply zo1|apply zo2|apply o_guard rfl|apply x_cond|apply k_e1 rfl|apply k_e2 rfl|apply k_e0 rfl|apply k_e3 rfl|apply k_e4 rfl);(case he=>exact ez4 @st_fn hti @b_strEql @b_self);(try case hok=>exact ezO);all_goals try (intro hb;(try simp only [hbs,reduceCtorEq] at hb);try exact ezX))|((with_reducible apply o_undef rfl);(case hb=>exact ez0)))
     all_goals exact sw_flat rfl rfl ⟨rfl,rfl,rfl⟩
   ·have e5:=b_diff hs
    have eR:(decide ((0:Int)=0) && (decide (s=[]) && (decide (l.length≤1) && X)))=false:=by simp [hs]
    rw [eR]
    refine enter Try.func51 kz rfl kz rfl rfl rfl ?_
    (repeat' first|refine zcd ?_|intro K' hK|(with_reducible refine zn hK ?_;clear hK)|fail|((with_reducible first|apply zo1|apply zo2|apply o_guard rfl|apply x_cond|apply k_e1 rfl|apply k_e2 rfl|apply k_e0 rfl|apply k_e3 rfl|apply k_e4 rfl);(case he=>exact ez4 @st_fn hti @b_strEql e5);(try case hok=>exact ezO);all_goals try (intro hb;(try simp only [hbs,reduceCtorEq] at hb);try exact ezX))|((with_reducible apply o_undef rfl);(case hb=>exact ez0)))
    all_goals exact sw_flat rfl rfl ⟨rfl,rfl,rfl⟩
  ·have eR:(decide (i=0) && (decide (s=[]) && (decide (l.length≤1) && X)))=false:=by simp [hi]
   rw [eR]
   refine enter Try.func51 kz rfl kz rfl rfl rfl ?_
   (repeat' first|refine zcd ?_|intro K' hK|(with_reducible refine zn hK ?_;clear hK)|fail|((with_reducible first|apply zo1|apply zo2|apply o_guard rfl|apply x_cond|apply k_e1 rfl|apply k_e2 rfl|apply k_e0 rfl|apply k_e3 rfl|apply k_e4 rfl);(case he=>exact ez2 @st_fn hti);(try case hok=>exact ezO);all_goals try (intro hb;(try simp only [hbs,reduceCtorEq] at hb);try exact ezX))|((with_reducible apply o_undef rfl);(case hb=>exact ez0)))
   all_goals exact sw_flat rfl rfl ⟨rfl,rfl,rfl⟩
 ·clear psm
  rw [if_neg (by decide),if_neg (by decide),if_neg (by decide),if_neg (by decide),if_pos rfl]
  have qq:=q3 (.inr rfl)
  clear q2 q3
  obtain ⟨X,hX⟩:∃ X,(l.all fun e=>decide (0<dp) && fitP T N el.toNat e (dp - 1))=X:=⟨_,rfl⟩
  simp only [hX] at qq ⊢
  by_cases hi:i=0
  ·subst hi
   by_cases hs:s=[]
   ·subst hs
    by_cases hll:l.length≤16
    ·have eR:(decide ((0:Int)=0) && (decide (([]:List UInt8)=[]) && (decide (l.length≤16) && X))) = !(!X):=by simp [hll]
     rw [eR]
     refine enter Try.func51 kz rfl kz rfl rfl rfl ?_
     (repeat' first|refine zcd ?_|intro K' hK|(with_reducible refine zn hK ?_;clear hK)|((with_reducible apply o_callF (g:=89) w_none);(case ha=>exact ez0);(case hs=>((with_reducible apply qq);(all_goals first|omega|exact ezT hT|exact ezL hl1|exact ez0)));(case' hk=>rintro _ h' n' ⟨rfl,rfl,rfl⟩))|((with_reducible first|apply zo1|apply zo2|apply o_guard rfl|apply x_cond|apply k_e1 rfl|apply k_e2 rfl|apply k_e0 rfl|apply k_e3 rfl|apply k_e4 rfl);(case he=>exact ez4 @st_fn hti @b_strEql @b_self);(try case hok=>exact ezO);all_goals try (intro hb;(try simp only [hbs,reduceCtorEq] at hb);try exact ezX))|((with_reducible apply o_undef rfl);(case hb=>exact ez0)))
     all_goals exact sw_flat rfl rfl ⟨rfl,rfl,rfl⟩
    ·have eR:(decide ((0:Int)=0) && (decide (([]:List UInt8)=[]) && (decide (l.length≤16) && X)))=false:=by simp [hll]
     rw [eR]
     refine enter Try.func51 kz rfl kz rfl rfl rfl ?_
     (repeat' first|refine zcd ?_|intro K' hK|(with_reducible refine zn hK ?_;clear hK)|fail|((with_reducible first|apply zo1|apply zo2|apply o_guard rfl|apply x_cond|apply k_e1 rfl|apply k_e2 rfl|apply k_e0 rfl|apply k_e3 rfl|apply k_e4 rfl);(case he=>exact ez4 @st_fn hti @b_strEql @b_self);(try case hok=>exact ezO);all_goals try (intro hb;(try simp only [hbs,reduceCtorEq] at hb);try exact ezX))|((with_reducible apply o_undef rfl);(case hb=>exact ez0)))
     all_goals exact sw_flat rfl rfl ⟨rfl,rfl,rfl⟩
   ·have e5:=b_diff hs
    have eR:(decide ((0:Int)=0) && (decide (s=[]) && (decide (l.length≤16) && X)))=false:=by simp [hs]
    rw [eR]
    refine enter Try.func51 kz rfl kz rfl rfl rfl ?_
    (repeat' first|refine zcd ?_|intro K' hK|(with_reducible refine zn hK ?_;clear hK)|fail|((with_reducible first|apply zo1|apply zo2|apply o_guard rfl|apply x_cond|apply k_e1 rfl|apply k_e2 rfl|apply k_e0 rfl|apply k_e3 rfl|apply k_e4 rfl);(case he=>exact ez4 @st_fn hti @b_strEql e5);(try case hok=>exact ezO);all_goals try (intro hb;(try simp only [hbs,reduceCtorEq] at hb);try exact ezX))|((with_reducible apply o_undef rfl);(case hb=>exact ez0)))
    all_goals exact sw_flat rfl rfl ⟨rfl,rfl,rfl⟩
  ·have eR:(decide (i=0) && (decide (s=[]) && (decide (l.length≤16) && X)))=false:=by simp [hi]
   rw [eR]
   refine enter Try.func51 kz rfl kz rfl rfl rfl ?_
   (repeat' first|refine zcd ?_|intro K' hK|(with_reducible refine zn hK ?_;clear hK)|fail|((with_reducible first|apply zo1|apply zo2|apply o_guard rfl|apply x_cond|apply k_e1 rfl|apply k_e2 rfl|apply k_e0 rfl|apply k_e3 rfl|apply k_e4 rfl);(case he=>exact ez2 @st_fn hti);(try case hok=>exact ezO);all_goals try (intro hb;(try simp only [hbs,reduceCtorEq] at hb);try exact ezX))|((with_reducible apply o_undef rfl);(case hb=>exact ez0)))
   all_goals exact sw_flat rfl rfl ⟨rfl,rfl,rfl⟩
 ·clear q2 q3 psm
  have qp:=fun (h6:Hp) (n6:Nat) (hr6:RdH h6 n6 FA (fv fs))=>((vparts_ev k (d+5*N+13) n h6 n6 hk ⟨vk,el,ln,fs,FA,fc⟩ hfi hr6)).mono fun _ _ _ hh=>IntsV.rd hh
  obtain ⟨ps,hps⟩:∃ ps,prtT ⟨vk,el,ln,fs,FA,fc⟩=ps:=⟨_,rfl⟩
  simp only [hps] at qp hpl hzp ⊢
  obtain ⟨X,hX⟩:∃ X,((ps.zip l).all fun e=>fitP T N e.1.toNat e.2 dp)=X:=⟨_,rfl⟩
  rw [if_neg zm,if_neg zm,if_neg zm,if_neg zm,if_neg zm,hX]
  have eR:(decide (i=0) && (decide (s=[]) && (decide (l.length=ps.length) && X)))=if i=0∧s=[]∧l.length=ps.length then X else false:=by
   by_cases a:i=0 <;> by_cases b:s=[] <;> by_cases c:l.length=ps.length <;> simp [a,b,c]
  rw [eR]
  clear eR
  rcases hc56 with rfl|rfl
  all_goals
   by_cases hg:i=0∧s=[]∧l.length=ps.length
   ·obtain ⟨rfl,rfl,hlp⟩:=hg
    rw [if_pos ⟨rfl,rfl,hlp⟩]
    refine enter Try.func51 kz rfl kz rfl rfl rfl ?_
    (repeat' first|refine zcd ?_|intro K' hK|(with_reducible refine zn hK ?_;clear hK)|((with_reducible apply o_callF (g:=70) w_none);(case ha=>exact ez0);(case hs=>((with_reducible apply qp);exact ezD hfd));(case' hk=>rintro _ h' n' ⟨PA,pc,rfl,hrP,hPn,hn2,hk2⟩))|((with_reducible first|apply zo1|apply zo2|apply o_guard rfl|apply x_cond|apply k_e1 rfl|apply k_e2 rfl|apply k_e0 rfl|apply k_e3 rfl|apply k_e4 rfl);(case he=>exact ez4 @st_fn hti @b_strNeq @b_self);(try case hok=>exact ezO);all_goals try (intro hb;(try simp only [hbs,reduceCtorEq] at hb);try exact ezX))|((with_reducible apply o_undef rfl);(case hb=>exact ez0)))
    obtain ⟨h1,rfl⟩:∃ y,y=h':=⟨_,rfl⟩
    obtain ⟨n1,rfl⟩:∃ y,y=n':=⟨_,rfl⟩
    have r4:rowOf h1 n=some (22,false,[.slice (some ⟨tid,toff,none⟩) T.length tc]):=by rw [rowOf_keep (hk2 _ zm)];exact ez0
    have r7:rowOf h1 (n+2)=some (3,false,[.int .i64 dp]):=by rw [rowOf_keep (hk2 _ zm)];exact ez0
    obtain ⟨K,r6⟩:∃ K:Int,rowOf h1 (n+1)=some (32,false,vcell K 0 [] A1 l.length cc1 false):=⟨_,by rw [rowOf_keep (hk2 _ zm)];exact ez0⟩
    have hkp:∀ b,b<n→h1.get b=h.get b:=fun b hb=>by rw [hk2 _ zm];(repeat rw [Hp.get_ne _ _ zm])
    have hT1:TabH h1 n1 (some ⟨tid,toff,none⟩) T:=(hT.keep (Nat.le_refl _) hkp).more zm
    have hL1:LH h1 n1 A1 l:=hl1.keep zm hkp
    clear hk2
    have f6:=cellsAt_row (off:=0) (k:=5) r6
    have g1:=cellAt_row (off:=1) r6
    have g2:=cellAt_row (off:=2) r6
    have g3:=cellAt_row (off:=3) r6
    (repeat' first|refine zcd ?_|intro K' hK|(with_reducible refine zn hK ?_;clear hK)|fail|((with_reducible first|apply zo1|apply zo2|apply o_guard rfl|apply x_cond|apply k_e1 rfl|apply k_e2 rfl|apply k_e0 rfl|apply k_e3 rfl|apply k_e4 rfl);(case he=>exact ez6 @b_strNeq @b_self g1 g2 g3 hlp);(try case hok=>exact ezO);all_goals try (intro hb;(try simp only [hbs,reduceCtorEq] at hb);try exact ezX))|((with_reducible apply o_undef rfl);(case hb=>exact ez0)))
    refine x_loopV [8,13,14,144,145,146,147,148,149,150,151,152,153,154,155,156,157,158] [144] (fun m vs h5 n5=>∃ q:Nat,m=l.length - q∧q≤l.length∧vs=[.int .i64 q]∧n1≤n5∧(∀ b,b<n1→h5.get b=h1.get b)∧∀ j (hj:j<ps.length) (hj2:j<l.length),j<q→fitP T N (ps[j]).toNat l[j] dp=true) l.length rfl zm ⟨0,rfl,by omega,ez0,Nat.le_refl _,fun _ _=>rfl,fun j _ _ hj=>absurd hj (Nat.not_lt_zero _)⟩ ?_
    rintro m g _ h5 n5 ⟨q,rfl,hq,rfl,hn5,hk5,hall⟩
    have s4:rowOf h5 n=some (22,false,[.slice (some ⟨tid,toff,none⟩) T.length tc]):=by rw [rowOf_keep (hk5 _ zm)];exact r4
    have s7:rowOf h5 (n+2)=some (3,false,[.int .i64 dp]):=by rw [rowOf_keep (hk5 _ zm)];exact r7
    have u4:=cellAt_row (off:=0) s4
    have u7:=cellAt_row (off:=0) s7
    have hT5:TabH h5 n5 (some ⟨tid,toff,none⟩) T:=(hT1.keep (Nat.le_refl _) hk5).more hn5
    have hL5:LH h5 n5 A1 l:=hL1.keep hn5 hk5
    by_cases hql:q<l.length
    ·have hqp:q<ps.length:=by omega
     obtain ⟨id,off,A2,cc2,rfl,hid,c1,v1⟩:=hL5.at_ hql
     obtain ⟨pid,poff,rfl,hpid,cp⟩:=int_at ((hrP.keep (Nat.le_refl _) hk5).more hn5) hqp
     obtain ⟨y,hy,hoy⟩:=hzp q hqp
     rw [hy] at cp
     have qf:=fun (cl:Nat) (h6:Hp) (n6:Nat) (cs:List Value) (hT6:TabH h6 n6 (some ⟨tid,toff,none⟩) T) (hv6:VH h6 n6 l[q] cs)=>ih y l[q] dp hoy (hb2 _ (List.getElem_mem hql)) hdp (d+4) cl h6 n6 cs hT6 hv6
     rw [show d+4+5*N+10=d+5*N+14 from by omega] at qf
     obtain ⟨e,he⟩:∃ e,l[q]=e:=⟨_,rfl⟩
     simp only [he] at c1 v1 qf
     cases hB:fitP T N y e dp with
     | true=>
      simp only [hB] at qf
      (repeat' first|refine zcd ?_|intro K' hK|(with_reducible refine zn hK ?_;clear hK)|(with_reducible refine x_drawnD (id:=26) [(0,4),(0,5),(4,5),(0,6),(4,6),(5,6)] kz fun K' hK=>?_)|((with_reducible apply d_nil);(case hp=>exact ezP);(case' hx=>(refine hK _ _ _ ?_;clear hK)))|((with_reducible apply d_pure w_none);(case hp=>exact rfl);(case hc=>exact rfl);(case he=>exact ez3 u4 u7 cp))|((with_reducible apply d_eff w_none);(case hc=>exact rfl);(case he=>exact ez3 u4 u7 cp);(case hok=>exact ezO))|((with_reducible apply d_guard rfl);(case hb=>exact ez3 u4 u7 cp);(case' h1=>intro hb;(try simp only [hbs,reduceCtorEq] at hb);try exact ezX);(case' h2=>intro hb;(try simp only [hbs,reduceCtorEq] at hb);try exact ezX))|((with_reducible apply d_callS (g:=51) w_none);(case hs0=>exact rfl);(case ha=>exact ez0);(case hs=>((with_reducible apply qf);(all_goals first|exact (hT5.set (Nat.le_refl _) _).more zm|exact (v1.set (Nat.le_refl _) _).more zm)));(case' hk=>rintro _ h' n' ⟨rfl,rfl,rfl⟩))|((with_reducible first|apply zo1|apply zo2|apply o_guard rfl|apply x_cond|apply k_e1 rfl|apply k_e2 rfl|apply k_e0 rfl|apply k_e3 rfl|apply k_e4 rfl);(case he=>exact ez1 c1);(try case hok=>exact ezO);all_goals try (intro hb;(try simp only [hbs,reduceCtorEq] at hb);try exact ezX))|((with_reducible apply o_undef rfl);(case hb=>exact ez0)))
      refine k_round (l.length - (q+1)) zm ⟨q+1,rfl,by omega,ez0,by omega,(ezB hk5),fun j hj hj2 hjq=>?_⟩
      by_cases e2:j=q
      ·subst e2;simp only [hy,he,Int.toNat_natCast];exact hB
      ·exact hall j hj hj2 zm
     | false=>
      simp only [hB] at qf
      have hXf:X=false:=by
       rw [← hX]
       refine List.all_eq_false.2 ⟨(ps[q],l[q]),List.mem_iff_getElem.2 ⟨q,by rw [List.length_zip];omega,by rw [List.getElem_zip]⟩,?_⟩
       simp only [hy,he,Int.toNat_natCast,hB]
       decide
      rw [hXf]
      (repeat' first|refine zcd ?_|intro K' hK|(with_reducible refine zn hK ?_;clear hK)|(with_reducible refine x_drawnD (id:=26) [(0,4),(0,5),(4,5),(0,6),(4,6),(5,6)] kz fun K' hK=>?_)|((with_reducible apply d_nil);(case hp=>exact ezP);(case' hx=>(refine hK _ _ _ ?_;clear hK)))|((with_reducible apply d_pure w_none);(case hp=>exact rfl);(case hc=>exact rfl);(case he=>exact ez3 u4 u7 cp))|((with_reducible apply d_eff w_none);(case hc=>exact rfl);(case he=>exact ez3 u4 u7 cp);(case hok=>exact ezO))|((with_reducible apply d_guard rfl);(case hb=>exact ez3 u4 u7 cp);(case' h1=>intro hb;(try simp only [hbs,reduceCtorEq] at hb);try exact ezX);(case' h2=>intro hb;(try simp only [hbs,reduceCtorEq] at hb);try exact ezX))|((with_reducible apply d_callS (g:=51) w_none);(case hs0=>exact rfl);(case ha=>exact ez0);(case hs=>((with_reducible apply qf);(all_goals first|exact (hT5.set (Nat.le_refl _) _).more zm|exact (v1.set (Nat.le_refl _) _).more zm)));(case' hk=>rintro _ h' n' ⟨rfl,rfl,rfl⟩))|((with_reducible first|apply zo1|apply zo2|apply o_guard rfl|apply x_cond|apply k_e1 rfl|apply k_e2 rfl|apply k_e0 rfl|apply k_e3 rfl|apply k_e4 rfl);(case he=>exact ez1 c1);(try case hok=>exact ezO);all_goals try (intro hb;(try simp only [hbs,reduceCtorEq] at hb);try exact ezX))|((with_reducible apply o_undef rfl);(case hb=>exact ez0)))
      all_goals exact sw_flat rfl rfl ⟨rfl,rfl,rfl⟩
    ·obtain rfl:q=l.length:=by omega
     have hXt:X=true:=by
      rw [← hX]
      refine List.all_eq_true.2 fun x hx=>?_
      obtain ⟨j,hj,rfl⟩:=List.getElem_of_mem hx
      rw [List.length_zip] at hj
      rw [List.getElem_zip]
      exact hall j zm zm zm
     rw [hXt]
     (repeat' first|refine zcd ?_|intro K' hK|(with_reducible refine zn hK ?_;clear hK)|fail|((with_reducible first|apply zo1|apply zo2|apply o_guard rfl|apply x_cond|apply k_e1 rfl|apply k_e2 rfl|apply k_e0 rfl|apply k_e3 rfl|apply k_e4 rfl);(case he=>exact ez0);(try case hok=>exact ezO);all_goals try (intro hb;(try simp only [hbs,reduceCtorEq] at hb);try exact ezX))|((with_reducible apply o_undef rfl);(case hb=>exact ez0)))
     all_goals exact sw_flat rfl rfl ⟨rfl,rfl,rfl⟩
   ·rw [if_neg hg]
    by_cases hi:i=0
    ·subst hi
     by_cases hs:s=[]
     ·subst hs
      have hlp:¬ l.length=ps.length:=fun e=>hg ⟨rfl,rfl,e⟩
      refine enter Try.func51 kz rfl kz rfl rfl rfl ?_
      (repeat' first|refine zcd ?_|intro K' hK|(with_reducible refine zn hK ?_;clear hK)|((with_reducible apply o_callF (g:=70) w_none);(case ha=>exact ez0);(case hs=>((with_reducible apply qp);exact ezD hfd));(case' hk=>rintro _ h' n' ⟨PA,pc,rfl,hrP,hPn,hn2,hk2⟩))|((with_reducible first|apply zo1|apply zo2|apply o_guard rfl|apply x_cond|apply k_e1 rfl|apply k_e2 rfl|apply k_e0 rfl|apply k_e3 rfl|apply k_e4 rfl);(case he=>exact ez4 @st_fn hti @b_strNeq @b_self);(try case hok=>exact ezO);all_goals try (intro hb;(try simp only [hbs,reduceCtorEq] at hb);try exact ezX))|((with_reducible apply o_undef rfl);(case hb=>exact ez0)))
      obtain ⟨K,r6⟩:∃ K:Int,rowOf h' (n+1)=some (32,false,vcell K 0 [] A1 l.length cc1 false):=⟨_,by rw [rowOf_keep (hk2 _ zm)];exact ez0⟩
      have g1:=cellAt_row (off:=1) r6
      have g2:=cellAt_row (off:=2) r6
      have g3:=cellAt_row (off:=3) r6
      (repeat' first|refine zcd ?_|intro K' hK|(with_reducible refine zn hK ?_;clear hK)|fail|((with_reducible first|apply zo1|apply zo2|apply o_guard rfl|apply x_cond|apply k_e1 rfl|apply k_e2 rfl|apply k_e0 rfl|apply k_e3 rfl|apply k_e4 rfl);(case he=>exact ez5 @b_strNeq @b_self g1 g2 g3);(try case hok=>exact ezO);all_goals try (intro hb;(try simp only [hbs,reduceCtorEq] at hb);try exact ezX))|((with_reducible apply o_undef rfl);(case hb=>exact ez0)))
      all_goals exact sw_flat rfl rfl ⟨rfl,rfl,rfl⟩
     ·have e5:=b_diff hs
      refine enter Try.func51 kz rfl kz rfl rfl rfl ?_
      (repeat' first|refine zcd ?_|intro K' hK|(with_reducible refine zn hK ?_;clear hK)|((with_reducible apply o_callF (g:=70) w_none);(case ha=>exact ez0);(case hs=>((with_reducible apply qp);exact ezD hfd));(case' hk=>rintro _ h' n' ⟨PA,pc,rfl,hrP,hPn,hn2,hk2⟩))|((with_reducible first|apply zo1|apply zo2|apply o_guard rfl|apply x_cond|apply k_e1 rfl|apply k_e2 rfl|apply k_e0 rfl|apply k_e3 rfl|apply k_e4 rfl);(case he=>exact ez4 @st_fn hti @b_strNeq e5);(try case hok=>exact ezO);all_goals try (intro hb;(try simp only [hbs,reduceCtorEq] at hb);try exact ezX))|((with_reducible apply o_undef rfl);(case hb=>exact ez0)))
      obtain ⟨K,r6⟩:∃ K:Int,rowOf h' (n+1)=some (32,false,vcell K 0 s A1 l.length cc1 false):=⟨_,by rw [rowOf_keep (hk2 _ zm)];exact ez0⟩
      have g1:=cellAt_row (off:=1) r6
      have g2:=cellAt_row (off:=2) r6
      have g3:=cellAt_row (off:=3) r6
      (repeat' first|refine zcd ?_|intro K' hK|(with_reducible refine zn hK ?_;clear hK)|fail|((with_reducible first|apply zo1|apply zo2|apply o_guard rfl|apply x_cond|apply k_e1 rfl|apply k_e2 rfl|apply k_e0 rfl|apply k_e3 rfl|apply k_e4 rfl);(case he=>exact ez5 @b_strNeq e5 g1 g2 g3);(try case hok=>exact ezO);all_goals try (intro hb;(try simp only [hbs,reduceCtorEq] at hb);try exact ezX))|((with_reducible apply o_undef rfl);(case hb=>exact ez0)))
      all_goals exact sw_flat rfl rfl ⟨rfl,rfl,rfl⟩
    ·refine enter Try.func51 kz rfl kz rfl rfl rfl ?_
     (repeat' first|refine zcd ?_|intro K' hK|(with_reducible refine zn hK ?_;clear hK)|((with_reducible apply o_callF (g:=70) w_none);(case ha=>exact ez0);(case hs=>((with_reducible apply qp);exact ezD hfd));(case' hk=>rintro _ h' n' ⟨PA,pc,rfl,hrP,hPn,hn2,hk2⟩))|((with_reducible first|apply zo1|apply zo2|apply o_guard rfl|apply x_cond|apply k_e1 rfl|apply k_e2 rfl|apply k_e0 rfl|apply k_e3 rfl|apply k_e4 rfl);(case he=>exact ez3 @st_fn hti @b_strNeq);(try case hok=>exact ezO);all_goals try (intro hb;(try simp only [hbs,reduceCtorEq] at hb);try exact ezX))|((with_reducible apply o_undef rfl);(case hb=>exact ez0)))
     obtain ⟨K,r6⟩:∃ K:Int,rowOf h' (n+1)=some (32,false,vcell K i s A1 l.length cc1 false):=⟨_,by rw [rowOf_keep (hk2 _ zm)];exact ez0⟩
     have g1:=cellAt_row (off:=1) r6
     have g2:=cellAt_row (off:=2) r6
     have g3:=cellAt_row (off:=3) r6
     (repeat' first|refine zcd ?_|intro K' hK|(with_reducible refine zn hK ?_;clear hK)|fail|((with_reducible first|apply zo1|apply zo2|apply o_guard rfl|apply x_cond|apply k_e1 rfl|apply k_e2 rfl|apply k_e0 rfl|apply k_e3 rfl|apply k_e4 rfl);(case he=>exact ez4 @b_strNeq g1 g2 g3);(try case hok=>exact ezO);all_goals try (intro hb;(try simp only [hbs,reduceCtorEq] at hb);try exact ezX))|((with_reducible apply o_undef rfl);(case hb=>exact ez0)))
     all_goals exact sw_flat rfl rfl ⟨rfl,rfl,rfl⟩
end
section
open Go.RowKit
noncomputable def chkV (T:List Tp) (N:Nat) (t:Int) (v:V):Int:=if okE T t≠0 then okE T t else if fitP T N t.toNat v 3=true then 0 else 30
variable (k d cl:Nat) (h:Hp) (n:Nat)
theorem vchk_ev (hk:30000≤k) (TA:Option Addr) (T:List Tp) (tc:Nat) (hT:TabH h n TA T) (hS:∀ t∈T,t.fs.length≤20000) (hm:T.length≤9223372036854775807) (N:Nat) (t:Int) (v:V) (hb:Bd N v) (cs:List Value) (hv:VH h n v cs) :
  SQ k (d+5*N+11) cl 21 [.slice TA T.length tc,.int .i64 t,.agg ⟨cs⟩] h n fun w h' n'=>w = .int .i64 (chkV T N t v)∧h=h'∧n=n':=by
 have qc0:=fun (h6:Hp) (n6:Nat) (hT6:TabH h6 n6 TA T)=>(vcheck_ev k (d+5*N) n h6 n6 hk TA T tc hT6 hS hm t).mono (Φ':=fun v h' n'=>(∃ z:Int,v = .tuple ⟨[.int .i64 z,.int .i64 (okE T t)]⟩)∧h6=h'∧n6=n') fun _ _ _ hp=>⟨hp.1,hp.2.1.symm,hp.2.2.symm⟩
 obtain ⟨A1,cc1,rfl, -, -⟩:=hv.cut
 unfold chkV
 by_cases hE:okE T t=0
 ·obtain ⟨x,rfl,ho⟩:=okE_0 hE
  rw [if_neg (not_not_intro hE),Int.toNat_natCast]
  simp only [hE] at qc0
  have qf:=fun (cl:Nat) (h6:Hp) (n6:Nat) (cs:List Value) (hT6:TabH h6 n6 TA T) (hv6:VH h6 n6 v cs)=>fits_ev k hk TA T tc N x v 3 ho hb zm d cl h6 n6 cs hT6 hv6
  have qf:∀ (cl:Nat) (h6:Hp) (n6:Nat) (cs:List Value),TabH h6 n6 TA T→VH h6 n6 v cs→SQ k (d+5*N+10) cl 51 [.slice TA T.length tc,.int .i64 x,.agg ⟨cs⟩,.int .i64 3] h6 n6 fun w h' n'=>w = .bool (fitP T N x v 3)∧h6=h'∧n6=n':=qf
  obtain ⟨B,hB⟩:∃ B,fitP T N x v 3=B:=⟨_,rfl⟩
  simp only [hB] at qf ⊢
  cases B
  ·rw [if_neg (by decide)]
   refine enter Try.func21 kz rfl kz rfl rfl rfl ?_
   (repeat' first|refine zcd ?_|intro K' hK|(with_reducible refine zn hK ?_;clear hK)|((with_reducible apply o_callF (g:=37) w_none);(case ha=>exact ez0);(case hs=>((with_reducible apply qc0);exact (hT.set (Nat.le_refl _) _).more zm));(case' hk=>rintro _ h' n' ⟨⟨z,rfl⟩,rfl,rfl⟩))|((with_reducible apply o_callF (g:=51) w_none);(case ha=>exact ez0);(case hs=>((with_reducible apply qf);(all_goals first|exact (hT.set (Nat.le_refl _) _).more zm|exact (hv.set (Nat.le_refl _) _).more zm)));(case' hk=>rintro _ h' n' ⟨rfl,rfl,rfl⟩))|((with_reducible first|apply zo1|apply zo2|apply o_guard rfl|apply x_cond|apply k_e1 rfl|apply k_e2 rfl|apply k_e0 rfl|apply k_e3 rfl|apply k_e4 rfl);(case he=>exact ez0);(try case hok=>exact ezO);all_goals try (intro hb;(try simp only [hbs,reduceCtorEq] at hb);try exact ezX))|((with_reducible apply o_undef rfl);(case hb=>exact ez0)))
   all_goals exact sw_flat rfl rfl ⟨rfl,rfl,rfl⟩
  ·rw [if_pos rfl]
   refine enter Try.func21 kz rfl kz rfl rfl rfl ?_
   (repeat' first|refine zcd ?_|intro K' hK|(with_reducible refine zn hK ?_;clear hK)|((with_reducible apply o_callF (g:=37) w_none);(case ha=>exact ez0);(case hs=>((with_reducible apply qc0);exact (hT.set (Nat.le_refl _) _).more zm));(case' hk=>rintro _ h' n' ⟨⟨z,rfl⟩,rfl,rfl⟩))|((with_reducible apply o_callF (g:=51) w_none);(case ha=>exact ez0);(case hs=>((with_reducible apply qf);(all_goals first|exact (hT.set (Nat.le_refl _) _).more zm|exact (hv.set (Nat.le_refl _) _).more zm)));(case' hk=>rintro _ h' n' ⟨rfl,rfl,rfl⟩))|((with_reducible first|apply zo1|apply zo2|apply o_guard rfl|apply x_cond|apply k_e1 rfl|apply k_e2 rfl|apply k_e0 rfl|apply k_e3 rfl|apply k_e4 rfl);(case he=>exact ez0);(try case hok=>exact ezO);all_goals try (intro hb;(try simp only [hbs,reduceCtorEq] at hb);try exact ezX))|((with_reducible apply o_undef rfl);(case hb=>exact ez0)))
   all_goals exact sw_flat rfl rfl ⟨rfl,rfl,rfl⟩
 ·rw [if_pos hE]
  obtain ⟨E,hEe⟩:∃ E,okE T t=E:=⟨_,rfl⟩
  simp only [hEe] at qc0 hE ⊢
  refine enter Try.func21 kz rfl kz rfl rfl rfl ?_
  (repeat' first|refine zcd ?_|intro K' hK|(with_reducible refine zn hK ?_;clear hK)|((with_reducible apply o_callF (g:=37) w_none);(case ha=>exact ez0);(case hs=>((with_reducible apply qc0);exact (hT.set (Nat.le_refl _) _).more zm));(case' hk=>rintro _ h' n' ⟨⟨z,rfl⟩,rfl,rfl⟩))|((with_reducible first|apply zo1|apply zo2|apply o_guard rfl|apply x_cond|apply k_e1 rfl|apply k_e2 rfl|apply k_e0 rfl|apply k_e3 rfl|apply k_e4 rfl);(case he=>exact ez0);(try case hok=>exact ezO);all_goals try (intro hb;(try simp only [hbs,reduceCtorEq] at hb);try exact ezX))|((with_reducible apply o_undef rfl);(case hb=>exact ez0)))
  all_goals exact sw_flat rfl rfl ⟨rfl,rfl,rfl⟩
end
end Go.Proofs.Ytcpkdjikembpnaa.Ce
