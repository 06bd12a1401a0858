/- Parts of the proof of ValueBack: Ij. No condition of its own. -/
import Derived.Test.YtcpkdjikembpnaaWaay
import Derived.Test.YtcpkdjikembpnaaWaaz
set_option linter.unusedVariables false
set_option linter.unusedSimpArgs false
set_option maxRecDepth 1000000
set_option maxHeartbeats 4000000
namespace Go.Proofs.Ytcpkdjikembpnaa.Ce
open Go.RowKit
theorem mk_bz (m:Nat):(List.replicate m [Value.int IntKind.u8 0]).flatten=bv (List.replicate m 0):=by unfold bv;rw [List.map_replicate];induction m with|zero=>rfl|succ m ih=>rw [List.replicate_succ,List.flatten_cons,ih,List.replicate_succ];rfl
theorem cellAt_keep {h h':Hp} {b off:Nat} (e:h'.get b=h.get b):cellAt h' b off=cellAt h b off:=by rw [cellAt_get,cellAt_get,e]
theorem wrap_bnd (i:Int):0≤IntKind.wrap .u64 i∧IntKind.wrap .u64 i<18446744073709551616:=by rw [IntKind.wrap_u64];omega
def strR (z:Nat) (os:List Int) (r:Except Int (List UInt8 × List (List UInt8))):Except Int (List UInt8 × List UInt8):=match r with
 | .error e=>.error e
 | .ok a=>.ok (a.1,placeP (List.replicate z 0) (os.zip a.2))
variable (k:Nat)
theorem store_ev (hk:30000≤k) (TA:Option Addr) (T:List Tp) (tc:Nat) (hS:∀ t∈T,t.fs.length≤20000) (hm:T.length≤9223372036854775807) (lim:Int):∀ (N t:Nat) (v:V) (dp:Nat),OkV T t→fitP T N t v dp=true→∀ (d cl:Nat) (h:Hp) (n:Nat) (A:Option Addr) (c:Nat) (hs:List UInt8) (cs:List Value),TabH h n TA T→VH h n v cs→HR h n A c hs→hs.length≤20000 →
  SQ k (d+2*N+11) cl 49 [.slice TA T.length tc,.agg ⟨[.int .u64 65536,.slice A hs.length c]⟩,.int .i64 lim,.int .i64 t,.agg ⟨cs⟩] h n (StV (storeP T lim N hs t v) A h n):=by
 intro N
 induction N with
 | zero=>intro t v dp _ hf;rw [fitP] at hf;cases hf
 | succ N ih=>
 intro t v dp ho hf d cl h n A c hs cs hT hv hh hhl
 rw [show d+2*(N+1)+11=d+2*N+12+1 from by omega]
 have htl:=ho.lt
 have hfi:=ho.chk.2.1 t htl
 have hkd:=fine_kd hfi
 have hfd:=hT.fd _ (List.getElem_mem htl)
 have hpt:=fun e=>ho.ptr e
 have hpl:=prt_len ho
 have hpi:=fun q (a:q<(prtT T[t]).length) (b:q<(offsT T T[t]).length)=>prt_in ho a b
 have hbd:=ho.bnd
 have hsp:=siz_pos (t+1) ho zm
 obtain ⟨tid,toff,hTA,htid,hti, -⟩:=hT.at_ htl
 subst hTA
 obtain ⟨A1,cc1,rfl,hA1,hl1⟩:=hv.cut
 obtain ⟨vk,i,s,l,vc⟩:=v
 have hx:=List.getElem?_eq_getElem htl
 obtain ⟨e1,e2,f1,f2,f3,f47,f56⟩:=fitP_inv hx hf
 simp only [V.kd,V.i,V.s,V.l,V.c] at hl1 hv ⊢
 rw [storeP_at hx]
 have q1:=lit1 k (d+2*N+11) hk
 have q2:=lit2 k (d+2*N+11) hk
 rw [show d+2*N+11+1=d+2*N+12 from rfl] at q1 q2
 clear hx
 obtain ⟨x,hx⟩:∃ x,T[t]=x:=⟨_,rfl⟩
 simp only [hx] at hfi hkd hfd hpt hpl hpi hti e1 f47 f56 ⊢
 obtain ⟨kd,el,ln,fs,FA,fc⟩:=x
 dsimp only at hkd hfd hpt hpl hpi hti e1 f47 f56 ⊢
 subst e1
 subst e2
 have hck:vk=1∨vk=2∨vk=3∨(vk=4∨vk=7)∨vk=5∨vk=6:=by omega
 rcases hck with rfl|rfl|rfl|h47|hc56
 ·rw [if_pos rfl]
  obtain ⟨hi,rfl,rfl⟩:=f1 rfl
  clear f1 f2 f3 f47 f56 hpt hpl hpi q1 q2
  rcases hi with rfl|rfl
  all_goals
   refine enter Try.func49 kz rfl kz rfl rfl rfl ?_
   (repeat' first|refine zcd ?_|intro K' hK|(with_reducible refine zn hK ?_;clear hK)|(with_reducible refine x_drawnD (id:=4) [(0,2),(0,3),(2,5),(3,5)] kz fun K' hK=>?_)|((with_reducible apply d_nil);(case hp=>exact ezP);(case' hx=>(refine hK _ _ _ ?_;clear hK)))|((with_reducible apply d_pure w_none);(case hp=>exact rfl);(case hc=>exact rfl);(case he=>exact ez1 hti))|((with_reducible apply d_eff w_none);(case hc=>exact rfl);(case he=>exact ez1 hti);(case hok=>exact ezO))|((with_reducible apply d_guard rfl);(case hb=>exact ez1 hti);(case' h1=>intro hb;(try simp only [hbs,reduceCtorEq] at hb);try exact ezX);(case' h2=>intro hb;(try simp only [hbs,reduceCtorEq] at hb);try exact ezX))|((with_reducible first|apply zo1|apply zo2|apply o_guard rfl|apply x_cond|apply k_e1 rfl|apply k_e2 rfl|apply k_e0 rfl|apply k_e3 rfl|apply k_e4 rfl);(case he=>exact ez1 hti);(try case hok=>exact ezO);all_goals try (intro hb;(try simp only [hbs,reduceCtorEq] at hb);try exact ezX))|((with_reducible apply o_undef rfl);(case hb=>exact ez0)))
  ·exact sw_store (own:=[UInt8.ofNat 0]) hh ((hh.keep (Nat.le_refl _) ezN).le zm) (.inl rfl) (hh.ne1 zm) zm zm ezN ez0
  ·exact sw_store (own:=[UInt8.ofNat 1]) hh ((hh.keep (Nat.le_refl _) ezN).le zm) (.inl rfl) (hh.ne1 zm) zm zm ezN ez0
 ·rw [if_neg (by decide),if_pos rfl]
  obtain ⟨rfl,rfl⟩:=f2 rfl
  clear f1 f2 f3 f47 f56 hpt hpl hpi q2
  have hwb:=wrap_bnd i
  obtain ⟨w,hw⟩:∃ w,IntKind.wrap .u64 i=w:=⟨_,rfl⟩
  rw [hw] at hwb ⊢
  refine enter Try.func49 kz rfl kz rfl rfl rfl ?_
  (repeat' first|refine zcd ?_|intro K' hK|(with_reducible refine zn hK ?_;clear hK)|(with_reducible refine x_drawnD (id:=6) [(0,2),(0,3),(0,5)] kz fun K' hK=>?_)|((with_reducible apply d_nil);(case hp=>exact ezP);(case' hx=>(refine hK _ _ _ ?_;clear hK)))|((with_reducible apply d_pure w_none);(case hp=>exact rfl);(case hc=>exact rfl);(case he=>exact ez2 hti hw))|((with_reducible apply d_eff w_none);(case hc=>exact rfl);(case he=>exact ez2 hti hw);(case hok=>exact ezO))|((with_reducible apply d_guard rfl);(case hb=>exact ez2 hti hw);(case' h1=>intro hb;(try simp only [hbs,reduceCtorEq] at hb);try exact ezX);(case' h2=>intro hb;(try simp only [hbs,reduceCtorEq] at hb);try exact ezX))|((with_reducible apply d_callS (g:=82) w_none);(case hs0=>exact rfl);(case ha=>exact ez0);(case hs=>((with_reducible apply q1);(all_goals first|exact RdH.row zm|omega)));(case' hk=>rintro _ h' n' ⟨rfl,rfl,rfl⟩))|((with_reducible apply d_callN (g:=82) w_none);(case hs0=>exact rfl);(case ha=>exact ez0);(case hs=>((with_reducible apply q1);(all_goals first|exact RdH.row zm|omega)));(case' hk=>rintro _ h' n' ⟨rfl,rfl,rfl⟩))|((with_reducible first|apply zo1|apply zo2|apply o_guard rfl|apply x_cond|apply k_e1 rfl|apply k_e2 rfl|apply k_e0 rfl|apply k_e3 rfl|apply k_e4 rfl);(case he=>exact ez2 hti hw);(try case hok=>exact ezO);all_goals try (intro hb;(try simp only [hbs,reduceCtorEq] at hb);try exact ezX))|((with_reducible apply o_undef rfl);(case hb=>exact ez0)))
  exact sw_store (own:=litP [w]) hh ((hh.keep (Nat.le_refl _) ezN).le zm) (.inl rfl) (hh.ne1 zm) zm zm ezN ez0
 ·rw [if_neg (by decide),if_neg (by decide),if_pos rfl]
  obtain ⟨rfl,rfl,hsl⟩:=f3 rfl
  clear f1 f2 f3 f47 f56 hpt hpl hpi
  by_cases hs0:s=[]
  ·subst hs0
   rw [if_pos rfl]
   refine enter Try.func49 kz rfl kz rfl rfl rfl ?_
   (repeat' first|refine zcd ?_|intro K' hK|(with_reducible refine zn hK ?_;clear hK)|(with_reducible refine x_drawnD (id:=9) [(0,2)] kz fun K' hK=>?_)|((with_reducible apply d_nil);(case hp=>exact ezP);(case' hx=>(refine hK _ _ _ ?_;clear hK)))|((with_reducible apply d_pure w_none);(case hp=>exact rfl);(case hc=>exact rfl);(case he=>exact ez1 hti))|((with_reducible apply d_eff w_none);(case hc=>exact rfl);(case he=>exact ez1 hti);(case hok=>exact ezO))|((with_reducible apply d_guard rfl);(case hb=>exact ez1 hti);(case' h1=>intro hb;(try simp only [hbs,reduceCtorEq] at hb);try exact ezX);(case' h2=>intro hb;(try simp only [hbs,reduceCtorEq] at hb);try exact ezX))|((with_reducible apply d_callS (g:=82) w_none);(case hs0=>exact rfl);(case ha=>exact ez0);(case hs=>((with_reducible apply q2);(all_goals first|exact RdH.row zm|omega)));(case' hk=>rintro _ h' n' ⟨rfl,rfl,rfl⟩))|((with_reducible apply d_callN (g:=82) w_none);(case hs0=>exact rfl);(case ha=>exact ez0);(case hs=>((with_reducible apply q2);(all_goals first|exact RdH.row zm|omega)));(case' hk=>rintro _ h' n' ⟨rfl,rfl,rfl⟩))|((with_reducible first|apply zo1|apply zo2|apply o_guard rfl|apply x_cond|apply k_e1 rfl|apply k_e2 rfl|apply k_e0 rfl|apply k_e3 rfl|apply k_e4 rfl);(case he=>exact ez3 hti @b_strEql @b_self);(try case hok=>exact ezO);all_goals try (intro hb;(try simp only [hbs,reduceCtorEq] at hb);try exact ezX))|((with_reducible apply o_undef rfl);(case hb=>exact ez0)))
   exact sw_store (own:=litP [0,0]) hh ((hh.keep (Nat.le_refl _) ezN).le zm) (.inl rfl) (hh.ne1 zm) zm zm ezN ez0
  ·rw [if_neg hs0]
   have e5:=b_diff hs0
   have hwl:=wrap_len (show s.length≤20000 by omega)
   have hA:RdH h n A (bv hs)∧(A=none→c=0):=hh.rd
   have hle:ByteArray.size ⟨⟨s⟩⟩≤1000000:=by rw [size_mk];omega
   by_cases hal:allocE 65536 hs.length s.length lim=0
   ·rw [if_pos hal]
    have qp:=fun (cl:Nat) (h6:Hp) (n6 id:Nat) (hr6:RdH h6 n6 A (bv hs)) (hr7:RdH h6 n6 (some ⟨id,0,none⟩) (bv s))=>(bput_ok k (d+2*N+7) cl h6 n6 65536 A hs c (some ⟨id,0,none⟩) s s.length lim hr6 hA.2 hr7 (fun e=>by cases e) hal).mono (Φ':=fun v h' n'=>v = .tuple ⟨[.agg ⟨[.int .u64 65536,.slice (some ⟨n6,0,none⟩) (putL hs s).length (putL hs s).length]⟩,.int .u64 (65536+hs.length),.int .i64 0]⟩∧h6.set n6 (.row 5 false (bv (putL hs s)))=h'∧n6+1=n') fun _ _ _ hp=>⟨hp.1,hp.2.1.symm,hp.2.2.symm⟩
    rw [show d+2*N+7+5=d+2*N+12 from rfl] at qp
    obtain ⟨pl,hpl⟩:∃ pl,putL hs s=pl:=⟨_,rfl⟩
    simp only [hpl] at qp ⊢
    refine enter Try.func49 kz rfl kz rfl rfl rfl ?_
    (repeat' first|refine zcd ?_|intro K' hK|(with_reducible refine zn hK ?_;clear hK)|(with_reducible refine x_drawnD (id:=11) [(0,3),(0,5),(0,7)] kz fun K' hK=>?_)|((with_reducible apply d_nil);(case hp=>exact ezP);(case' hx=>(refine hK _ _ _ ?_;clear hK)))|((with_reducible apply d_pure w_none);(case hp=>exact rfl);(case hc=>exact rfl);(case he=>exact ez3 hti @size_mk hwl))|((with_reducible apply d_eff w_none);(case hc=>exact rfl);(case he=>exact ez3 hti @size_mk hwl);(case hok=>exact ezO))|((with_reducible apply d_guard rfl);(case hb=>exact ez3 hti @size_mk hwl);(case' h1=>intro hb;(try simp only [hbs,reduceCtorEq] at hb);try exact ezX);(case' h2=>intro hb;(try simp only [hbs,reduceCtorEq] at hb);try exact ezX))|((with_reducible apply o_callF (g:=28) w_none);(case ha=>exact ez0);(case hs=>((with_reducible apply qp);(all_goals first|exact RdH.row zm|((refine RdH.more (B:=n) ?_ zm);(repeat' first|exact hA.1|refine RdH.set ?_ zm _)))));(case' hk=>rintro _ h' n' ⟨rfl,rfl,rfl⟩))|((with_reducible apply d_callS (g:=82) w_none);(case hs0=>exact rfl);(case ha=>exact ez0);(case hs=>((with_reducible apply q2);(all_goals first|exact RdH.row zm|omega)));(case' hk=>rintro _ h' n' ⟨rfl,rfl,rfl⟩))|((with_reducible apply d_callN (g:=82) w_none);(case hs0=>exact rfl);(case ha=>exact ez0);(case hs=>((with_reducible apply q2);(all_goals first|exact RdH.row zm|omega)));(case' hk=>rintro _ h' n' ⟨rfl,rfl,rfl⟩))|((with_reducible first|apply zo1|apply zo2|apply o_guard rfl|apply x_cond|apply k_e1 rfl|apply k_e2 rfl|apply k_e0 rfl|apply k_e3 rfl|apply k_e4 rfl);(case he=>exact ez6 hti @b_strEql e5 @bvals_bv @size_mk hwl);(try case hok=>exact ezO);all_goals try (intro hb;(try simp only [hbs,reduceCtorEq] at hb);try exact ezX))|((with_reducible apply o_undef rfl);(case hb=>exact ez0)))
    exact sw_store (own:=litP [65536+(hs.length:Int),(s.length:Int)]) hh (.inr ⟨_,rfl,by omega,ez0⟩) (.inr ⟨_,rfl,by omega⟩) (fun e=>by injection e with e;injection e with e;omega) zm zm ezN ez0
   ·rw [if_neg hal]
    obtain ⟨E,hE⟩:∃ E,allocE 65536 hs.length s.length lim=E:=⟨_,rfl⟩
    have qp:=fun (cl:Nat) (h6:Hp) (n6 id:Nat)=>(bput_err k (d+2*N+7) cl h6 n6 65536 A hs.length c (some ⟨id,0,none⟩) s.length s.length lim zm zm hal).mono (Φ':=fun v h' n'=>v = .tuple ⟨[.agg ⟨[.int .u64 0,.slice none 0 0]⟩,.int .u64 0,.int .i64 E]⟩∧h6=h'∧n6=n') fun _ _ _ hp=>⟨by rw [hp.1,hE],hp.2.1.symm,hp.2.2.symm⟩
    rw [show d+2*N+7+5=d+2*N+12 from rfl] at qp
    rw [hE] at hal ⊢
    refine enter Try.func49 kz rfl kz rfl rfl rfl ?_
    (repeat' first|refine zcd ?_|intro K' hK|(with_reducible refine zn hK ?_;clear hK)|(with_reducible refine x_drawnD (id:=11) [(0,3),(0,5),(0,7)] kz fun K' hK=>?_)|((with_reducible apply d_nil);(case hp=>exact ezP);(case' hx=>(refine hK _ _ _ ?_;clear hK)))|((with_reducible apply d_pure w_none);(case hp=>exact rfl);(case hc=>exact rfl);(case he=>exact ez3 hti @size_mk hwl))|((with_reducible apply d_eff w_none);(case hc=>exact rfl);(case he=>exact ez3 hti @size_mk hwl);(case hok=>exact ezO))|((with_reducible apply d_guard rfl);(case hb=>exact ez3 hti @size_mk hwl);(case' h1=>intro hb;(try simp only [hbs,reduceCtorEq] at hb);try exact ezX);(case' h2=>intro hb;(try simp only [hbs,reduceCtorEq] at hb);try exact ezX))|((with_reducible apply o_callF (g:=28) w_none);(case ha=>exact ez0);(case hs=>((with_reducible apply qp)));(case' hk=>rintro _ h' n' ⟨rfl,rfl,rfl⟩))|((with_reducible apply d_callS (g:=82) w_none);(case hs0=>exact rfl);(case ha=>exact ez0);(case hs=>((with_reducible apply q2);(all_goals first|exact RdH.row zm|omega)));(case' hk=>rintro _ h' n' ⟨rfl,rfl,rfl⟩))|((with_reducible apply d_callN (g:=82) w_none);(case hs0=>exact rfl);(case ha=>exact ez0);(case hs=>((with_reducible apply q2);(all_goals first|exact RdH.row zm|omega)));(case' hk=>rintro _ h' n' ⟨rfl,rfl,rfl⟩))|((with_reducible first|apply zo1|apply zo2|apply o_guard rfl|apply x_cond|apply k_e1 rfl|apply k_e2 rfl|apply k_e0 rfl|apply k_e3 rfl|apply k_e4 rfl);(case he=>exact ez6 hti @b_strEql e5 @bvals_bv @size_mk hwl);(try case hok=>exact ezO);all_goals try (intro hb;(try simp only [hbs,reduceCtorEq] at hb);try exact ezX))|((with_reducible apply o_undef rfl);(case hb=>exact ez0)))
    exact sw_serr (own:=litP [0,(s.length:Int)]) hal (fun e=>by have:=litP_length [0,(s.length:Int)];rw [e] at this;simp at this) zm zm ez0
 ·rw [if_neg zm,if_neg zm,if_neg zm,if_pos h47]
  obtain ⟨rfl,rfl,hll, -,hfe⟩:=f47 h47
  obtain ⟨y,hy,hoy⟩:=hpt h47
  clear f1 f2 f3 f47 f56 hpt hpl hpi q1 q2
  have hyb:=hoy.bnd
  have hyp:=siz_pos (y+1) hoy zm
  have qt:=fun (cl:Nat) (h6:Hp) (n6:Nat) (hT6:TabH h6 n6 (some ⟨tid,toff,none⟩) T) (hv6:VH h6 n6 (.mk vk 0 [] l false) (vcell vk 0 [] A1 l.length cc1 false)) (hh6:HR h6 n6 A c hs)=>target_ev k (d+2*N+5) hk (some ⟨tid,toff,none⟩) T tc lim ⟨vk,el,ln,fs,FA,fc⟩ h47 y hy (sizT T y).toNat zm (.mk vk 0 [] l false) hll (storeP T lim N) (fun hs2 v2 h2 hv2 r hr=>by
   have:=hfe v2 hv2
   rw [hy,Int.toNat_natCast] at this
   exact storeP_ok N y v2 (dp - 1) hs2 hoy this.2 h2 r hr) (fun v2 hv2 cl h7 n7 A7 c7 hs7 cs7 a b c8 e=>by
   have:=hfe v2 hv2
   rw [hy,Int.toNat_natCast] at this
   exact ih y v2 (dp - 1) hoy this.2 d cl h7 n7 A7 c7 hs7 cs7 a b c8 e) cl h6 n6 hT6 _ hv6 A c hs hh6 hhl
  rw [show d+2*N+5+7=d+2*N+12 from rfl] at qt
  dsimp only [V.l] at qt
  obtain ⟨res,hres⟩:∃ res,tgtP (storeP T lim N) lim ⟨vk,el,ln,fs,FA,fc⟩ hs l=res:=⟨_,rfl⟩
  rw [hres] at qt ⊢
  rcases h47 with rfl|rfl
  all_goals
   cases res with
   | error e=>
    refine enter Try.func49 kz rfl kz rfl rfl rfl ?_
    (repeat' first|refine zcd ?_|intro K' hK|(with_reducible refine zn hK ?_;clear hK)|((with_reducible apply o_callF (g:=83) w_none);(case ha=>exact ez0);(case hs=>((with_reducible apply qt);(all_goals first|((refine TabH.more (B:=n) ?_ zm);(repeat' first|exact hT|refine TabH.set ?_ zm _))|((refine VH.more (B:=n) ?_ zm);(repeat' first|exact hv|refine VH.set ?_ zm _))|(refine hh.keep zm fun b hb=>?_;(repeat rw [Hp.get_ne _ _ zm])))));(case' hk=>rintro _ h' n' ⟨O,m,c2,rfl,he0,hn6,hk6,ys,hO⟩))|((with_reducible first|apply zo1|apply zo2|apply o_guard rfl|apply x_cond|apply k_e1 rfl|apply k_e2 rfl|apply k_e0 rfl|apply k_e3 rfl|apply k_e4 rfl);(case he=>exact ez1 hti);(try case hok=>exact ezO);all_goals try (intro hb;(try simp only [hbs,reduceCtorEq] at hb);try exact ezX))|((with_reducible apply o_undef rfl);(case hb=>exact ez0)))
    have r10':rowOf h' (n+1+1)=some (29,false,[.int .u64 0,.slice none 0 0]):=(by rw [rowOf_keep (hk6 _ zm)];exact ez0)
    have w10:=rwOf_row r10'
    (repeat' first|refine zcd ?_|intro K' hK|(with_reducible refine zn hK ?_;clear hK)|fail|((with_reducible first|apply zo1|apply zo2|apply o_guard rfl|apply x_cond|apply k_e1 rfl|apply k_e2 rfl|apply k_e0 rfl|apply k_e3 rfl|apply k_e4 rfl);(case he=>exact ez1 w10);(try case hok=>exact ezO);all_goals try (intro hb;(try simp only [hbs,reduceCtorEq] at hb);try exact ezX))|((with_reducible apply o_undef rfl);(case hb=>exact ez0)))
    rcases hO with ⟨-,e⟩|⟨hy0,id,j1,j2,e,q4⟩
    ·injection e with e1 e2 e3
     subst e1
     subst e2
     subst e3
     exact sw_sno he0
    ·injection e with e1 e2 e3
     subst e1
     subst e2
     subst e3
     exact sw_serr he0 hy0 zm j2 (by rw [rowOf_ne _ _ zm];exact q4)
   | ok r=>
    obtain ⟨hs2,own⟩:=r
    refine enter Try.func49 kz rfl kz rfl rfl rfl ?_
    (repeat' first|refine zcd ?_|intro K' hK|(with_reducible refine zn hK ?_;clear hK)|((with_reducible apply o_callF (g:=83) w_none);(case ha=>exact ez0);(case hs=>((with_reducible apply qt);(all_goals first|((refine TabH.more (B:=n) ?_ zm);(repeat' first|exact hT|refine TabH.set ?_ zm _))|((refine VH.more (B:=n) ?_ zm);(repeat' first|exact hv|refine VH.set ?_ zm _))|(refine hh.keep zm fun b hb=>?_;(repeat rw [Hp.get_ne _ _ zm])))));(case' hk=>rintro _ h' n' ⟨A3,c3,bid,rfl,hr3,ho3,hne3,hb1,hb2,hb3,hn6,hk6⟩))|((with_reducible first|apply zo1|apply zo2|apply o_guard rfl|apply x_cond|apply k_e1 rfl|apply k_e2 rfl|apply k_e0 rfl|apply k_e3 rfl|apply k_e4 rfl);(case he=>exact ez1 hti);(try case hok=>exact ezO);all_goals try (intro hb;(try simp only [hbs,reduceCtorEq] at hb);try exact ezX))|((with_reducible apply o_undef rfl);(case hb=>exact ez0)))
    have r10':rowOf h' (n+1+1)=some (29,false,[.int .u64 0,.slice none 0 0]):=(by rw [rowOf_keep (hk6 _ zm)];exact ez0)
    have w10:=rwOf_row r10'
    have hA3:A3=A∨∃ id,A3=some ⟨id,0,none⟩∧n≤id:=by
     rcases ho3 with rfl|⟨id,e,hid⟩
     ·exact .inl rfl
     ·exact .inr ⟨id,e,by omega⟩
    have hold:∀ b,A3=some ⟨b,0,none⟩→b<n'∧(b<n∨n+4≤b):=fun b hb=>⟨hr3.old b hb,by
     rcases ho3 with rfl|⟨id,e,hid⟩
     ·exact .inl (hh.old b hb)
     ·rw [hb] at e
      injection e with e
      injection e with e
      omega⟩
    (repeat' first|refine zcd ?_|intro K' hK|(with_reducible refine zn hK ?_;clear hK)|fail|((with_reducible first|apply zo1|apply zo2|apply o_guard rfl|apply x_cond|apply k_e1 rfl|apply k_e2 rfl|apply k_e0 rfl|apply k_e3 rfl|apply k_e4 rfl);(case he=>exact ez1 w10);(try case hok=>exact ezO);all_goals try (intro hb;(try simp only [hbs,reduceCtorEq] at hb);try exact ezX))|((with_reducible apply o_undef rfl);(case hb=>exact ez0)))
    exact sw_store hh (hr3.at_ (Nat.le_refl _) (fun b hb=>by have:=hold b hb;(repeat rw [Hp.get_ne _ _ zm]))) hA3 hne3 zm hb2 (fun b hb=>by rw [Hp.get_ne _ _ zm,hk6 _ zm];(repeat rw [Hp.get_ne _ _ zm])) (by rw [rowOf_ne _ _ zm];exact hb3)
 ·rw [if_neg zm,if_neg zm,if_neg zm,if_neg zm]
  obtain ⟨rfl,rfl,hlp,hfj⟩:=f56 ⟨by omega,by omega,by omega,by omega,by omega⟩
  clear f1 f2 f3 f47 f56 hpt q1 q2
  obtain ⟨z,hz⟩:=Int.eq_ofNat_of_zero_le hbd.1
  have qz:=fun (cl:Nat) (h6:Hp) (n6:Nat) (hT6:TabH h6 n6 (some ⟨tid,toff,none⟩) T)=>(vsize_ev k (d+2*N+3) cl h6 n6 hk (some ⟨tid,toff,none⟩) T tc hT6 hS hm t ho).mono (Φ':=fun v h' n'=>v = .int .i64 (z:Int)∧h6=h'∧n6=n') fun _ _ _ hp=>⟨by rw [hp.1,hz],hp.2.1.symm,hp.2.2.symm⟩
  simp only [hz] at hbd hsp hpi
  rw [hz,Int.toNat_natCast]
  rw [show d+2*N+3+9=d+2*N+12 from rfl] at qz
  have qp:=fun (cl:Nat) (h6:Hp) (n6:Nat) (hr6:RdH h6 n6 FA (fv fs))=>((vparts_ev k (d+2*N+11) cl h6 n6 hk ⟨vk,el,ln,fs,FA,fc⟩ hfi hr6)).mono fun _ _ _ hh=>IntsV.rd hh
  have qo:=fun (cl:Nat) (h6:Hp) (n6:Nat) (hT6:TabH h6 n6 (some ⟨tid,toff,none⟩) T)=>(voffs_ev k (d+2*N+2) cl h6 n6 hk (some ⟨tid,toff,none⟩) T tc hT6 hS hm t ho ⟨vk,el,ln,fs,FA,fc⟩ hx).mono fun _ _ _ hh=>IntsV.rd hh
  rw [show d+2*N+11+1=d+2*N+12 from rfl] at qp
  rw [show d+2*N+2+10=d+2*N+12 from rfl] at qo
  obtain ⟨ps,hps⟩:∃ ps,prtT ⟨vk,el,ln,fs,FA,fc⟩=ps:=⟨_,rfl⟩
  obtain ⟨os,hos⟩:∃ os,offsT T ⟨vk,el,ln,fs,FA,fc⟩=os:=⟨_,rfl⟩
  simp only [hps] at qp hpl hpi hlp hfj ⊢
  simp only [hos] at qo hpl hpi ⊢
  obtain ⟨res,hres⟩:∃ res,catP (storeP T lim N) hs (ps.zip l)=res:=⟨_,rfl⟩
  rw [hres]
  obtain ⟨R,hR⟩:∃ R:Except Int (List UInt8 × List UInt8),R=strR z os res:=⟨_,rfl⟩
  refine Sp.mono (Φ:=StV R A h n) ?_ fun v h' n' hp=>by rw [hR] at hp;exact hp
  have hvv:vk=5∨vk=6:=hc56
  refine enter Try.func49 kz rfl kz rfl rfl rfl ?_
  (repeat' first|refine zcd ?_|intro K' hK|(with_reducible refine zn hK ?_;clear hK)|(with_reducible refine x_drawnD (id:=16) [(0,3),(1,3)] kz fun K' hK=>?_)|((with_reducible apply d_nil);(case hp=>exact ezP);(case' hx=>(refine hK _ _ _ ?_;clear hK)))|((with_reducible apply d_pure w_none);(case hp=>exact rfl);(case hc=>exact rfl);(case he=>exact ez1 hti))|((with_reducible apply d_eff w_none);(case hc=>exact rfl);(case he=>exact ez1 hti);(case hok=>exact ezO))|((with_reducible apply d_guard rfl);(case hb=>exact ez1 hti);(case' h1=>intro hb;(try simp only [hbs,reduceCtorEq] at hb);try exact ezX);(case' h2=>intro hb;(try simp only [hbs,reduceCtorEq] at hb);try exact ezX))|((with_reducible apply o_callF (g:=84) w_none);(case ha=>exact ez0);(case hs=>((with_reducible apply qz);((refine TabH.more (B:=n) ?_ zm);(repeat' first|exact hT|refine TabH.set ?_ zm _))));(case' hk=>rintro _ h' n' ⟨rfl,rfl,rfl⟩))|((with_reducible apply d_callS (g:=70) w_none);(case hs0=>exact rfl);(case ha=>exact ez0);(case hs=>((with_reducible apply qp);exact ezD hfd));(case' hk=>rintro _ h' n' ⟨PA,pc,rfl,hrP,hPn,hn2,hk2⟩))|((with_reducible apply d_callN (g:=70) w_none);(case hs0=>exact rfl);(case ha=>exact ez0);(case hs=>((with_reducible apply qp);exact ezD hfd));(case' hk=>rintro _ h' n' ⟨PA,pc,rfl,hrP,hPn,hn2,hk2⟩))|((with_reducible first|apply zo1|apply zo2|apply o_guard rfl|apply x_cond|apply k_e1 rfl|apply k_e2 rfl|apply k_e0 rfl|apply k_e3 rfl|apply k_e4 rfl);(case he=>(intros;simp (disch:=first|assumption|omega|rfl|decide) only [go_sem,seval,tys,hti,mk_bz] <;> rfl));(try case hok=>exact ezO);all_goals try (intro hb;(try simp only [hbs,reduceCtorEq] at hb);try exact ezX))|((with_reducible apply o_undef rfl);(case hb=>exact ez0)))
  obtain ⟨h7,hh7⟩:∃ y,y=h':=⟨_,rfl⟩
  obtain ⟨n7,hn7⟩:∃ y,y=n':=⟨_,rfl⟩
  subst hh7
  subst hn7
  have r6:rowOf h7 n=some (29,false,[.int .u64 65536,.slice A hs.length c]):=(by rw [rowOf_keep (hk2 _ zm)];exact ez0)
  have r9:rowOf h7 (n+1)=some (32,false,vcell vk 0 [] A1 l.length cc1 false):=(by rw [rowOf_keep (hk2 _ zm)];exact ez0)
  have r10:rowOf h7 (n+1+1)=some (29,false,[.int .u64 0,.slice none 0 0]):=(by rw [rowOf_keep (hk2 _ zm)];exact ez0)
  have r13:rowOf h7 (n+1+1+1)=some (64,false,[.int .u8 vk,.int .i64 el,.int .i64 ln,.slice FA fs.length fc]):=(by rw [rowOf_keep (hk2 _ zm)];exact ez0)
  have rb:rowOf h7 (n+1+1+1+1)=some (5,false,bv (List.replicate z 0)):=(by rw [rowOf_keep (hk2 _ zm)];exact ez0)
  have hkp:∀ b,b<n→h7.get b=h.get b:=fun b hb=>by
   rw [hk2 _ zm]
   (repeat rw [Hp.get_ne _ _ zm])
  have f13:=cellsAt_row (off:=0) (k:=4) r13
  have hT7:TabH h7 n7 (some ⟨tid,toff,none⟩) T:=(hT.keep (Nat.le_refl _) hkp).more zm
  (repeat' first|refine zcd ?_|intro K' hK|(with_reducible refine zn hK ?_;clear hK)|((with_reducible apply d_nil);(case hp=>exact ezP);(case' hx=>(refine hK _ _ _ ?_;clear hK)))|((with_reducible apply d_pure w_none);(case hp=>exact rfl);(case hc=>exact rfl);(case he=>exact ez1 f13))|((with_reducible apply d_eff w_none);(case hc=>exact rfl);(case he=>exact ez1 f13);(case hok=>exact ezO))|((with_reducible apply d_guard rfl);(case hb=>exact ez1 f13);(case' h1=>intro hb;(try simp only [hbs,reduceCtorEq] at hb);try exact ezX);(case' h2=>intro hb;(try simp only [hbs,reduceCtorEq] at hb);try exact ezX))|((with_reducible apply d_callS (g:=71) w_none);(case hs0=>exact rfl);(case ha=>exact ez0);(case hs=>((with_reducible apply qo);(exact hT7)));(case' hk=>rintro _ h' n' ⟨QA,qc,rfl,hrQ,hQn,hn3,hk3⟩))|((with_reducible apply d_callN (g:=71) w_none);(case hs0=>exact rfl);(case ha=>exact ez0);(case hs=>((with_reducible apply qo);(exact hT7)));(case' hk=>rintro _ h' n' ⟨QA,qc,rfl,hrQ,hQn,hn3,hk3⟩))|((with_reducible first|apply zo1|apply zo2|apply o_guard rfl|apply x_cond|apply k_e1 rfl|apply k_e2 rfl|apply k_e0 rfl|apply k_e3 rfl|apply k_e4 rfl);(case he=>exact ez0);(try case hok=>exact ezO);all_goals try (intro hb;(try simp only [hbs,reduceCtorEq] at hb);try exact ezX))|((with_reducible apply o_undef rfl);(case hb=>exact ez0)))
  obtain ⟨h9,hh9⟩:∃ y,y=h':=⟨_,rfl⟩
  obtain ⟨n9,hn9⟩:∃ y,y=n':=⟨_,rfl⟩
  subst hh9
  subst hn9
  have hkp9:∀ b,b<n→h9.get b=h.get b:=fun b hb=>by rw [hk3 _ zm];exact hkp b hb
  have hrP9:RdH h9 n9 PA (iv ps):=(hrP.keep (Nat.le_refl _) hk3).more hn3
  have hT9:TabH h9 n9 (some ⟨tid,toff,none⟩) T:=(hT.keep (Nat.le_refl _) hkp9).more zm
  have hL9:LH h9 n9 A1 l:=hl1.keep zm hkp9
  have s6:=(rowOf_keep (hk3 n zm)).trans r6
  have s9:=(rowOf_keep (hk3 (n+1) zm)).trans r9
  have s10:=(rowOf_keep (hk3 (n+1+1) zm)).trans r10
  have sb:=(rowOf_keep (hk3 (n+1+1+1+1) zm)).trans rb
  have hh9:HR h9 n9 A c hs:=(hh.keep (Nat.le_refl _) hkp9).le zm
  have f9:=cellAt_row (off:=3) s9
  have hP7:∀ b o,PA=some ⟨b,o,none⟩→n+5≤b:=fun b o e=>by have:=hPn b o e;omega
  have hQ9:∀ b o,QA=some ⟨b,o,none⟩→n+5≤b:=fun b o e=>by have:=hQn b o e;omega
  clear hk2 hk3 hkp hPn hQn hrP r6 r9 r10 r13 rb f13 hT7
  (repeat' first|refine zcd ?_|intro K' hK|(with_reducible refine zn hK ?_;clear hK)|fail|((with_reducible first|apply zo1|apply zo2|apply o_guard rfl|apply x_cond|apply k_e1 rfl|apply k_e2 rfl|apply k_e0 rfl|apply k_e3 rfl|apply k_e4 rfl);(case he=>exact ez1 f9);(try case hok=>exact ezO);all_goals try (intro hb;(try simp only [hbs,reduceCtorEq] at hb);try exact ezX))|((with_reducible apply o_undef rfl);(case hb=>exact ez0)))
  refine x_loopV [11,12,20,21,22,23,24,97,98,99,100,101,102,103,104,105,106,107,108,109,110,111,112,113,114,115,116,117,118,119,120,121,122,123,124,125,126,127,128] [97] (fun m vs h5 n5=>∃ (q:Nat) (A':Option Addr) (c':Nat) (hs':List UInt8) (owns:List (List UInt8)),m=l.length - q∧q≤l.length∧vs=[.int .i64 q]∧n9≤n5∧(∀ b,b<n9→b≠n→b≠n+1+1+1+1→h5.get b=h9.get b) ∧
   rowOf h5 n=some (29,false,[.int .u64 65536,.slice A' hs'.length c'])∧rowOf h5 (n+1+1+1+1)=some (5,false,bv (placeP (List.replicate z 0) ((os.take q).zip owns)))∧(placeP (List.replicate z 0) ((os.take q).zip owns)).length=z ∧
   HR h5 n5 A' c' hs'∧(A'=A∨∃ id,A'=some ⟨id,0,none⟩∧n9≤id)∧hs'.length≤20000∧catP (storeP T lim N) hs ((ps.zip l).take q) = .ok (hs',owns)) l.length rfl zm ?_ ?_
  ·exact ⟨0,A,c,hs,[],rfl,by omega,ez0,Nat.le_refl _,fun _ _ _ _=>rfl,s6,by simpa [placeP] using sb,by simp [placeP],hh9,.inl rfl,hhl,rfl⟩
  ·rintro m g1 _ h5 n5 ⟨q,A',c',hs',owns,rfl,hq,rfl,hn5,hk5,r6,rb,hbl,hh5,hA',hsl,hcat⟩
   have hkn:∀ b,b<n→h5.get b=h.get b:=fun b hb=>by rw [hk5 _ zm zm zm];exact hkp9 b hb
   have hT5:TabH h5 n5 (some ⟨tid,toff,none⟩) T:=(hT.keep (Nat.le_refl _) hkn).more zm
   have hL5:LH h5 n5 A1 l:=hl1.keep zm hkn
   have r10:=(rowOf_keep (hk5 (n+1+1) zm zm zm)).trans s10
   have f6:=cellsAt_row (off:=0) (k:=2) r6
   have hol:=catP_len _ _ _ _ hcat
   dsimp only at hol
   rw [List.length_take,List.length_zip] at hol
   by_cases hql:q<l.length
   ·have hqp:q<ps.length:=by omega
    have hqo:q<os.length:=by omega
    obtain ⟨vid,voff,A2,cc2,rfl,hvid,c1,v1⟩:=hL5.at_ hql
    obtain ⟨pid,poff,rfl,hpid,cp⟩:=int_at hrP9 hqp
    obtain ⟨qid,qoff,rfl,hqid,cq⟩:=int_at hrQ hqo
    have hp5:=hP7 pid poff rfl
    have hq5:=hQ9 qid qoff rfl
    obtain ⟨y,hy,hyt,hoy,ha0,ha1⟩:=hpi q hqp hqo
    have hyb:=hoy.bnd
    have hyp:=siz_pos (y+1) hoy zm
    have hfq:=hfj q hqp hql
    rw [hy,Int.toNat_natCast] at hfq
    rw [cellAt_keep (hk5 pid zm zm zm).symm,hy] at cp
    rw [cellAt_keep (hk5 qid zm zm zm).symm] at cq
    have qs:=fun (cl:Nat) (h6:Hp) (n6:Nat) (cs:List Value) (hT6:TabH h6 n6 (some ⟨tid,toff,none⟩) T) (hv6:VH h6 n6 l[q] cs) (hh6:HR h6 n6 A' c' hs')=>ih y l[q] dp hoy hfq (d+1) cl h6 n6 A' c' hs' cs hT6 hv6 hh6 hsl
    rw [show d+1+2*N+11=d+2*N+12 from by omega] at qs
    have hgq:=storeP_ok (lim:=lim) N y l[q] dp hs' hoy hfq hsl
    have hsn:=catP_snoc (storeP T lim N) (ps[q],l[q]) _ _ _ hcat
    have htk:(ps.zip l).take (q+1)=(ps.zip l).take q ++ [(ps[q],l[q])]:=by rw [List.take_succ_eq_append_getElem (by rw [List.length_zip];omega),List.getElem_zip]
    rw [← htk] at hsn
    dsimp only at hsn
    rw [hy,Int.toNat_natCast] at hsn
    have hto:(os.take (q+1))=os.take q ++ [os[q]]:=List.take_succ_eq_append_getElem hqo
    obtain ⟨e,he⟩:∃ e,l[q]=e:=⟨_,rfl⟩
    obtain ⟨o,hoe⟩:∃ o,os[q]=o:=⟨_,rfl⟩
    simp only [he] at c1 v1 qs hgq hsn
    simp only [hoe] at cq ha0 ha1 hto
    clear htk hfq
    cases hge:storeP T lim N hs' y e with
    | error e0=>
     simp only [hge] at qs hsn
     have hRe:R = .error e0:=by
      have h1:=catP_err _ _ ((ps.zip l).drop (q+1)) _ hsn
      rw [List.take_append_drop,hres] at h1
      rw [hR,h1]
      rfl
     rw [hRe]
     (repeat' first|refine zcd ?_|intro K' hK|(with_reducible refine zn hK ?_;clear hK)|(with_reducible refine x_drawnD (id:=20) [(1,6),(1,7),(6,7)] kz fun K' hK=>?_)|((with_reducible apply d_nil);(case hp=>exact ezP);(case' hx=>(refine hK _ _ _ ?_;clear hK)))|((with_reducible apply d_pure w_none);(case hp=>exact rfl);(case hc=>exact rfl);(case he=>exact ez2 f6 cp))|((with_reducible apply d_eff w_none);(case hc=>exact rfl);(case he=>exact ez2 f6 cp);(case hok=>exact ezO))|((with_reducible apply d_guard rfl);(case hb=>exact ez2 f6 cp);(case' h1=>intro hb;(try simp only [hbs,reduceCtorEq] at hb);try exact ezX);(case' h2=>intro hb;(try simp only [hbs,reduceCtorEq] at hb);try exact ezX))|((with_reducible apply d_callS (g:=49) w_none);(case hs0=>exact rfl);(case ha=>exact ez0);(case hs=>((with_reducible apply qs);(all_goals first|((refine TabH.more (B:=n5) ?_ zm);(repeat' first|exact hT5|refine TabH.set ?_ zm _))|((refine VH.more (B:=n5) ?_ zm);(repeat' first|exact v1|refine VH.set ?_ zm _))|(refine hh5.keep zm fun b hb=>?_;(repeat rw [Hp.get_ne _ _ zm])))));(case' hk=>rintro _ h' n' ⟨O,m,c2,rfl,he0,hn6,hk6, -⟩))|((with_reducible apply d_callN (g:=49) w_none);(case hs0=>exact rfl);(case ha=>exact ez0);(case hs=>((with_reducible apply qs);(all_goals first|((refine TabH.more (B:=n5) ?_ zm);(repeat' first|exact hT5|refine TabH.set ?_ zm _))|((refine VH.more (B:=n5) ?_ zm);(repeat' first|exact v1|refine VH.set ?_ zm _))|(refine hh5.keep zm fun b hb=>?_;(repeat rw [Hp.get_ne _ _ zm])))));(case' hk=>rintro _ h' n' ⟨O,m,c2,rfl,he0,hn6,hk6, -⟩))|((with_reducible first|apply zo1|apply zo2|apply o_guard rfl|apply x_cond|apply k_e1 rfl|apply k_e2 rfl|apply k_e0 rfl|apply k_e3 rfl|apply k_e4 rfl);(case he=>exact ez1 c1);(try case hok=>exact ezO);all_goals try (intro hb;(try simp only [hbs,reduceCtorEq] at hb);try exact ezX))|((with_reducible apply o_undef rfl);(case hb=>exact ez0)))
     have r10':rowOf h' (n+1+1)=some (29,false,[.int .u64 0,.slice none 0 0]):=(by (repeat rw [rowOf_ne _ _ zm]);rw [rowOf_keep (hk6 _ zm)];(repeat rw [rowOf_ne _ _ zm]);exact r10)
     have w10:=rwOf_row r10'
     (repeat' first|refine zcd ?_|intro K' hK|(with_reducible refine zn hK ?_;clear hK)|((with_reducible apply d_nil);(case hp=>exact ezP);(case' hx=>(refine hK _ _ _ ?_;clear hK)))|((with_reducible apply d_pure w_none);(case hp=>exact rfl);(case hc=>exact rfl);(case he=>exact ez0))|((with_reducible apply d_eff w_none);(case hc=>exact rfl);(case he=>exact ez0);(case hok=>exact ezO))|((with_reducible apply d_guard rfl);(case hb=>exact ez0);(case' h1=>intro hb;(try simp only [hbs,reduceCtorEq] at hb);try exact ezX);(case' h2=>intro hb;(try simp only [hbs,reduceCtorEq] at hb);try exact ezX))|((with_reducible first|apply zo1|apply zo2|apply o_guard rfl|apply x_cond|apply k_e1 rfl|apply k_e2 rfl|apply k_e0 rfl|apply k_e3 rfl|apply k_e4 rfl);(case he=>exact ez1 w10);(try case hok=>exact ezO);all_goals try (intro hb;(try simp only [hbs,reduceCtorEq] at hb);try exact ezX))|((with_reducible apply o_undef rfl);(case hb=>exact ez0)))
     all_goals exact sw_sno he0
    | ok r=>
     obtain ⟨hs2,own⟩:=r
     obtain ⟨ho1,ho2⟩:=hgq _ hge
     simp only [hge] at qs hsn
     dsimp only at ho1 ho2 hsn
     obtain ⟨B,hB⟩:∃ B,placeP (List.replicate z 0) ((os.take q).zip owns)=B:=⟨_,rfl⟩
     rw [hB] at rb hbl
     obtain ⟨on,rfl⟩:=Int.eq_ofNat_of_zero_le ha0
     have hpn:placeP (List.replicate z 0) ((os.take (q+1)).zip (owns ++ [own]))=Go.Proofs.Ytcpkdjikembpnaa.put B on own:=by
      rw [hto,List.zip_append (by rw [List.length_take];omega),← hB]
      show placeP _ (_ ++ [((on:Int),own)])=_
      rw [placeP_snoc,Int.toNat_natCast]
     have hbp:=bv_put (p:=on) (xs:=B) (ys:=own) (m:=z) hbl.symm zm
     have hpl2:(Go.Proofs.Ytcpkdjikembpnaa.put B on own).length=z:=by rw [put_length zm,hbl]
     (repeat' first|refine zcd ?_|intro K' hK|(with_reducible refine zn hK ?_;clear hK)|(with_reducible refine x_drawnD (id:=20) [(1,6),(1,7),(6,7)] kz fun K' hK=>?_)|((with_reducible apply d_nil);(case hp=>exact ezP);(case' hx=>(refine hK _ _ _ ?_;clear hK)))|((with_reducible apply d_pure w_none);(case hp=>exact rfl);(case hc=>exact rfl);(case he=>exact ez2 f6 cp))|((with_reducible apply d_eff w_none);(case hc=>exact rfl);(case he=>exact ez2 f6 cp);(case hok=>exact ezO))|((with_reducible apply d_guard rfl);(case hb=>exact ez2 f6 cp);(case' h1=>intro hb;(try simp only [hbs,reduceCtorEq] at hb);try exact ezX);(case' h2=>intro hb;(try simp only [hbs,reduceCtorEq] at hb);try exact ezX))|((with_reducible apply d_callS (g:=49) w_none);(case hs0=>exact rfl);(case ha=>exact ez0);(case hs=>((with_reducible apply qs);(all_goals first|((refine TabH.more (B:=n5) ?_ zm);(repeat' first|exact hT5|refine TabH.set ?_ zm _))|((refine VH.more (B:=n5) ?_ zm);(repeat' first|exact v1|refine VH.set ?_ zm _))|(refine hh5.keep zm fun b hb=>?_;(repeat rw [Hp.get_ne _ _ zm])))));(case' hk=>rintro _ h' n' ⟨A3,c3,bid,rfl,hr3,ho3,hne3,hb1,hb2,hb3,hn6,hk6⟩))|((with_reducible apply d_callN (g:=49) w_none);(case hs0=>exact rfl);(case ha=>exact ez0);(case hs=>((with_reducible apply qs);(all_goals first|((refine TabH.more (B:=n5) ?_ zm);(repeat' first|exact hT5|refine TabH.set ?_ zm _))|((refine VH.more (B:=n5) ?_ zm);(repeat' first|exact v1|refine VH.set ?_ zm _))|(refine hh5.keep zm fun b hb=>?_;(repeat rw [Hp.get_ne _ _ zm])))));(case' hk=>rintro _ h' n' ⟨A3,c3,bid,rfl,hr3,ho3,hne3,hb1,hb2,hb3,hn6,hk6⟩))|((with_reducible first|apply zo1|apply zo2|apply o_guard rfl|apply x_cond|apply k_e1 rfl|apply k_e2 rfl|apply k_e0 rfl|apply k_e3 rfl|apply k_e4 rfl);(case he=>exact ez1 c1);(try case hok=>exact ezO);all_goals try (intro hb;(try simp only [hbs,reduceCtorEq] at hb);try exact ezX))|((with_reducible apply o_undef rfl);(case hb=>exact ez0)))
     have r6':rowOf h' n=some (29,false,[.int .u64 65536,.slice A' hs'.length c']):=(by (repeat rw [rowOf_ne _ _ zm]);rw [rowOf_keep (hk6 _ zm)];(repeat rw [rowOf_ne _ _ zm]);exact r6)
     have rb':rowOf h' (n+1+1+1+1)=some (5,false,bv B):=(by (repeat rw [rowOf_ne _ _ zm]);rw [rowOf_keep (hk6 _ zm)];(repeat rw [rowOf_ne _ _ zm]);exact rb)
     have cq':cellAt h' qid (qoff+q)=some (.int .i64 on):=by
      rw [cellAt_keep (hk6 qid zm),cellAt_keep (Hp.get_ne _ _ zm)]
      exact cq
     have w6:=rwOf_row r6'
     have wb:=rwOf_row rb'
     have hA3:A3=A∨∃ id,A3=some ⟨id,0,none⟩∧n9≤id:=by
      rcases ho3 with rfl|⟨id,e,hid⟩
      ·exact hA'
      ·exact .inr ⟨id,e,by omega⟩
     have hold:∀ b,A3=some ⟨b,0,none⟩→b<n'∧(b<n∨n9≤b):=fun b hb=>⟨hr3.old b hb,by
      rcases hA3 with rfl|⟨id,e,hid⟩
      ·exact .inl (hh.old b hb)
      ·rw [hb] at e
       injection e with e
       injection e with e
       omega⟩
     have hkk:∀ b,b<n9→b≠n→b≠n+1+1+1+1→h'.get b=h9.get b:=fun b hb hb1 hb2=>by
      rw [hk6 _ zm,Hp.get_ne _ _ zm]
      exact hk5 b hb hb1 hb2
     have hbv:=bv_length own
     have hbB:=bv_length B
     clear hk6 qs c1 v1 f6 r6 rb cq cp
     (repeat' first|refine zcd ?_|intro K' hK|(with_reducible refine zn hK ?_;clear hK)|((with_reducible apply d_nil);(case hp=>exact ezP);(case' hx=>(refine hK _ _ _ ?_;clear hK)))|((with_reducible apply d_pure w_none);(case hp=>exact rfl);(case hc=>exact rfl);(case he=>exact ez0))|((with_reducible apply d_eff w_none);(case hc=>exact rfl);(case he=>exact ez0);(case hok=>exact ezO))|((with_reducible apply d_guard rfl);(case hb=>exact ez0);(case' h1=>intro hb;(try simp only [hbs,reduceCtorEq] at hb);try exact ezX);(case' h2=>intro hb;(try simp only [hbs,reduceCtorEq] at hb);try exact ezX))|((with_reducible apply o_cp cpT27 w_none);(case hd=>exact ez1 wb);(case hy=>exact ez1 wb);(case hsrc=>exact src_row (ezW hb3) (by rw [bv_length];exact (Nat.mul_one _).symm));(case hr=>exact ez1 wb);(case hcl=>rw [bv_length]);(case hc=>exact bv_cok own);(case hl=>omega);(case ho=>(first|(simp;done)|(simp;omega)|omega|(simp only [bv_length];omega))))|((with_reducible first|apply zo1|apply zo2|apply o_guard rfl|apply x_cond|apply k_e1 rfl|apply k_e2 rfl|apply k_e0 rfl|apply k_e3 rfl|apply k_e4 rfl);(case he=>exact ez3 w6 wb cq');(try case hok=>exact ezO);all_goals try (intro hb;(try simp only [hbs,reduceCtorEq] at hb);try exact ezX))|((with_reducible apply o_undef rfl);(case hb=>exact ez0)))
     refine k_round (l.length - (q+1)) zm ⟨q+1,A3,c3,hs2,owns ++ [own],rfl,by omega,ez0,by omega,(fun b hb hb1 hb2=>by (repeat rw [Hp.get_ne _ _ zm]);exact hkk b hb hb1 hb2),ez0,?_,by rw [hpn];exact hpl2,hr3.at_ zm (fun b hb=>by have:=hold b hb;(repeat rw [Hp.get_ne _ _ zm])),hA3,ho2,hsn⟩
     rw [hpn,← hbp]
     first|exact rowOf_same _ _ _ _ _|exact ez0
   ·obtain rfl:q=l.length:=by omega
    rw [List.take_of_length_le (by rw [List.length_zip];omega),hres] at hcat
    subst hcat
    rw [List.take_of_length_le zm] at rb hbl
    unfold strR at hR
    dsimp only at hR
    rw [hR]
    obtain ⟨B,hB⟩:∃ B,placeP (List.replicate z 0) (os.zip owns)=B:=⟨_,rfl⟩
    rw [hB] at rb hbl ⊢
    have w10:=rwOf_row r10
    (repeat' first|refine zcd ?_|intro K' hK|(with_reducible refine zn hK ?_;clear hK)|fail|((with_reducible first|apply zo1|apply zo2|apply o_guard rfl|apply x_cond|apply k_e1 rfl|apply k_e2 rfl|apply k_e0 rfl|apply k_e3 rfl|apply k_e4 rfl);(case he=>exact ez2 f6 w10);(try case hok=>exact ezO);all_goals try (intro hb;(try simp only [hbs,reduceCtorEq] at hb);try exact ezX))|((with_reducible apply o_undef rfl);(case hb=>exact ez0)))
    rw [← hbl]
    exact sw_store hh (hh5.at_ (Nat.le_refl _) (fun b hb=>by
     have h1:=hh5.old b hb
     have h2:b<n∨n9≤b:=by
      rcases hA' with rfl|⟨id,e,hid⟩
      ·exact .inl (hh.old b hb)
      ·rw [hb] at e
       injection e with e
       injection e with e
       omega
     (repeat rw [Hp.get_ne _ _ zm]))) (by
     rcases hA' with rfl|⟨id,e,hid⟩
     ·exact .inl rfl
     ·exact .inr ⟨id,e,by omega⟩) (by
     rcases hA' with rfl|⟨id,e,hid⟩
     ·exact hh.ne1 zm
     ·rw [e]
      intro e2
      injection e2 with e2
      injection e2 with e2
      omega) zm zm (ezB hkn) (ezW rb)
end Go.Proofs.Ytcpkdjikembpnaa.Ce
