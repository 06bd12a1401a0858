/- Parts of the proof of ValueBack: Gl, Ia, Pm. No condition of its own. -/
import Derived.Test.YtcpkdjikembpnaaWaaj
import Derived.Test.YtcpkdjikembpnaaWaal
import Derived.Test.YtcpkdjikembpnaaWaav
import Derived.Test.YtcpkdjikembpnaaWaaw
set_option linter.unusedVariables false
set_option linter.unusedSimpArgs false
set_option maxRecDepth 1000000
set_option maxHeartbeats 4000000
namespace Go.Proofs.Ytcpkdjikembpnaa.Ce
section
open Go.RowKit
theorem wordV_bnd (xs:List UInt8) (p:Nat):0≤wordV xs p 8∧wordV xs p 8<18446744073709551616:=by
 unfold wordV
 refine ⟨le_nonneg _,?_⟩
 have h1:=le_lt ((xs.drop p).take 8)
 have h2:((xs.drop p).take 8).length≤8:=List.length_take_le _ _
 have h3:∀ q:Nat,q≤8→(256:Int) ^ q≤18446744073709551616:=by
  intro q hq
  have:q=0∨q=1∨q=2∨q=3∨q=4∨q=5∨q=6∨q=7∨q=8:=by omega
  rcases this with rfl|rfl|rfl|rfl|rfl|rfl|rfl|rfl|rfl <;> decide +kernel
 have h4:=h3 _ h2
 omega
theorem loadP_at {T:List Tp} {L:List Rg} {f dp:Nat} {bs:List UInt8} {t:Nat} {x:Tp} (hx:T[t]?=some x):loadP T L (f+1) dp bs t =
   if x.kd=1 then (if 1<(bs.getD 0 0).toNat then .error 12 else .ok (.mk 1 (bs.getD 0 0).toNat [] [] false))
   else if x.kd=2 then .ok (.mk 2 (i64 (wordV bs 0 8)) [] [] false)
   else if x.kd=3 then (if (textB L (wordV bs 0 8) (wordV bs 8 8)).2=0 then .ok (.mk 3 0 (textB L (wordV bs 0 8) (wordV bs 8 8)).1 [] false) else .error (textB L (wordV bs 0 8) (wordV bs 8 8)).2)
   else if x.kd=4 then (if wordV bs 0 8=0 then .ok (.mk 4 0 [] [] false) else folP (loadP T L f) T L x (wordV bs 0 8) 1 1 dp)
   else if x.kd=7 then (if wordV bs 16 8<wordV bs 8 8∨16<wordV bs 16 8∨(wordV bs 0 8=0∧0<wordV bs 16 8) then .error 12
    else if wordV bs 0 8=0 then .ok (.mk 7 0 [] [] false) else folP (loadP T L f) T L x (wordV bs 0 8) (wordV bs 8 8).toNat (wordV bs 16 8).toNat dp)
   else asV x.kd (listP (loadP T L f dp) bs ((prtT x).zip (offsT T x))):=by
 rw [loadP,hx]
variable (k d cl:Nat) (h:Hp) (n:Nat)
theorem mload_ev (hk:30000≤k) (TA A:Option Addr) (T:List Tp) (L:List Rg) (tc gc:Nat) (hS:∀ t∈T,t.fs.length≤20000) (hm:T.length≤32) (hl:L.length≤100) (hE:lstE L=0) (hC:∀ g∈L,chkG g=0) :
  ∀ (f t dp:Nat),OkV T t→dp≤3→dp*32+t<f→∀ (d cl:Nat) (h:Hp) (n:Nat) (bid boff bc m:Nat) (bs:List UInt8),TabH h n TA T→RgH h n A L→m=bs.length→RdH h n (some ⟨bid,boff,none⟩) (bv bs)→sizT T t≤bs.length→bs.length≤20000 →
  SQ k (d+3*f+20) cl 40 [.agg ⟨[.slice TA T.length tc,.slice A L.length gc]⟩,.slice (some ⟨bid,boff,none⟩) m bc,.int .i64 t,.int .i64 dp] h n (LdV (loadP T L f dp bs t) h n):=by
 intro f
 induction f with
 | zero=>intro t dp _ _ hlt;omega
 | succ f ihf=>
 intro t dp ho hdp hlt d cl h n bid boff bc m bs hT hR hmb hB hsz hbl
 subst hmb
 rw [show d+3*(f+1)+20=d+3*f+22+1 from by omega]
 have htl:=ho.lt
 have hfi:=ho.chk.2.1 t htl
 have hkd:=fine_kd hfi
 have hm2:T.length≤9223372036854775807:=by omega
 have hfd:=hT.fd _ (List.getElem_mem htl)
 have hnl:=hT.nl _ (List.getElem_mem htl)
 have hs1:=fun e=>ho.siz1 e
 have hs24:=fun e=>ho.siz24 e
 have hs3:=fun e=>ho.siz3 e
 have hs7:=fun e=>ho.siz7 e
 have hpos:=siz_pos (t+1) ho zm
 obtain ⟨tid,toff,hTA,htid,hti, -⟩:=hT.at_ htl
 subst hTA
 rw [loadP_at (List.getElem?_eq_getElem htl)]
 have hpl:=prt_len ho
 have hpi:=fun q (a:q<(prtT T[t]).length) (b:q<(offsT T T[t]).length)=>prt_in ho a b
 have hpt:=fun e=>ho.ptr e
 obtain ⟨x,hx⟩:∃ x,T[t]=x:=⟨_,rfl⟩
 simp only [hx] at hfi hkd hfd hnl hs1 hs24 hs3 hs7 hti hpl hpi hpt ⊢
 obtain ⟨kd,el,ln,fs,FA,fc⟩:=x
 dsimp only at hfi hkd hfd hnl hs1 hs24 hs3 hs7 hti ⊢
 obtain ⟨c0id,c0off,e0,hbid,hcell⟩:=hB.bytes zm
 injection e0 with e0
 injection e0 with e1 e2
 subst e1
 subst e2
 clear hcell
 by_cases k1:kd=1
 ·subst k1
  obtain ⟨_,_,e0, -,hcell⟩:=hB.bytes zm
  injection e0 with e0
  injection e0 with e1 e2
  subst e1
  subst e2
  have c0:=hcell 0 zm
  have hg:bs.getD 0 0=bs[0]'zm:=by rw [List.getD_eq_getElem?_getD,List.getElem?_eq_getElem zm];rfl
  rw [if_pos rfl,hg]
  obtain ⟨b,hbe⟩:∃ b,bs[0]'zm=b:=⟨_,rfl⟩
  rw [hbe] at c0 ⊢
  have hb8:=UInt8.toNat_lt b
  obtain ⟨bn,hbn⟩:∃ bn,b.toNat=bn:=⟨_,rfl⟩
  rw [hbn] at c0 hb8 ⊢
  rw [Nat.add_zero] at c0
  by_cases hb1:1<bn
  ·rw [if_pos hb1]
   refine enter Try.func40 kz rfl kz rfl rfl rfl ?_
   (repeat' first|refine zcd ?_|intro K' hK|(with_reducible refine zn hK ?_;clear hK)|fail|((with_reducible first|apply zo1|apply zo2|apply o_guard rfl|apply x_cond|apply k_e1 rfl|apply k_e2 rfl|apply k_e0 rfl|apply k_e3 rfl|apply k_e4 rfl);(case he=>exact ez2 hti c0);(try case hok=>exact ezO);all_goals try (intro hb;(try simp only [hbs,reduceCtorEq] at hb);try exact ezX))|((with_reducible apply o_undef rfl);(case hb=>exact ez0)))
   all_goals exact sw_flat rfl rfl ⟨rfl,by decide,rfl,rfl⟩
  ·rw [if_neg hb1]
   refine enter Try.func40 kz rfl kz rfl rfl rfl ?_
   (repeat' first|refine zcd ?_|intro K' hK|(with_reducible refine zn hK ?_;clear hK)|fail|((with_reducible first|apply zo1|apply zo2|apply o_guard rfl|apply x_cond|apply k_e1 rfl|apply k_e2 rfl|apply k_e0 rfl|apply k_e3 rfl|apply k_e4 rfl);(case he=>exact ez2 hti c0);(try case hok=>exact ezO);all_goals try (intro hb;(try simp only [hbs,reduceCtorEq] at hb);try exact ezX))|((with_reducible apply o_undef rfl);(case hb=>exact ez0)))
   all_goals exact sw_flat rfl rfl ⟨_,rfl,.leaf 1 bn [] false,Nat.le_refl _,fun _ _=>rfl⟩
 ·rw [if_neg k1]
  by_cases k2:kd=2
  ·rw [if_pos k2]
   have hs:=hs24 (.inl k2)
   subst k2
   have q0:∀ (cl:Nat) (h6:Hp) (n6:Nat) (hB6:RdH h6 n6 (some ⟨bid,boff,none⟩) (bv bs)),SQ k (d+3*f+22) cl 66 [.slice (some ⟨bid,boff,none⟩) bs.length bc,.int .i64 0] h6 n6 fun v h' n'=>v = .int .u64 (wordV bs 0 8)∧h6=h'∧n6=n':=fun cl h6 n6 hB6=>(vword_ev k (d+3*f+21) cl h6 n6 hk (some ⟨bid,boff,none⟩) bs bc hB6 0 zm zm).mono fun _ _ _ hp=>⟨hp.1,hp.2.1.symm,hp.2.2.symm⟩
   have hw0:=wordV_bnd bs 0
   obtain ⟨w0,hw0e⟩:∃ w,wordV bs 0 8=w:=⟨_,rfl⟩
   simp only [hw0e] at q0 hw0 ⊢
   refine enter Try.func40 kz rfl kz rfl rfl rfl ?_
   (repeat' first|refine zcd ?_|intro K' hK|(with_reducible refine zn hK ?_;clear hK)|((with_reducible apply o_callF (g:=66) w_none);(case ha=>exact ez0);(case hs=>((first|with_reducible apply q0|with_reducible apply q1|with_reducible apply q2);exact ezD hB));(case' hk=>rintro _ h' n' ⟨rfl,rfl,rfl⟩))|((with_reducible first|apply zo1|apply zo2|apply o_guard rfl|apply x_cond|apply k_e1 rfl|apply k_e2 rfl|apply k_e0 rfl|apply k_e3 rfl|apply k_e4 rfl);(case he=>exact ez1 hti);(try case hok=>exact ezO);all_goals try (intro hb;(try simp only [hbs,reduceCtorEq] at hb);try exact ezX))|((with_reducible apply o_undef rfl);(case hb=>exact ez0)))
   all_goals exact sw_flat rfl rfl ⟨_,rfl,.leaf 2 (i64 w0) [] false,Nat.le_refl _,fun _ _=>rfl⟩
  ·rw [if_neg k2]
   by_cases k3:kd=3
   ·rw [if_pos k3]
    have hs:=hs3 k3
    subst k3
    have q0:∀ (cl:Nat) (h6:Hp) (n6:Nat) (hB6:RdH h6 n6 (some ⟨bid,boff,none⟩) (bv bs)),SQ k (d+3*f+22) cl 66 [.slice (some ⟨bid,boff,none⟩) bs.length bc,.int .i64 0] h6 n6 fun v h' n'=>v = .int .u64 (wordV bs 0 8)∧h6=h'∧n6=n':=fun cl h6 n6 hB6=>(vword_ev k (d+3*f+21) cl h6 n6 hk (some ⟨bid,boff,none⟩) bs bc hB6 0 zm zm).mono fun _ _ _ hp=>⟨hp.1,hp.2.1.symm,hp.2.2.symm⟩
    have q1:∀ (cl:Nat) (h6:Hp) (n6:Nat) (hB6:RdH h6 n6 (some ⟨bid,boff,none⟩) (bv bs)),SQ k (d+3*f+22) cl 66 [.slice (some ⟨bid,boff,none⟩) bs.length bc,.int .i64 1] h6 n6 fun v h' n'=>v = .int .u64 (wordV bs 8 8)∧h6=h'∧n6=n':=fun cl h6 n6 hB6=>(vword_ev k (d+3*f+21) cl h6 n6 hk (some ⟨bid,boff,none⟩) bs bc hB6 1 zm zm).mono fun _ _ _ hp=>⟨hp.1,hp.2.1.symm,hp.2.2.symm⟩
    have hw0:=wordV_bnd bs 0
    obtain ⟨w0,hw0e⟩:∃ w,wordV bs 0 8=w:=⟨_,rfl⟩
    simp only [hw0e] at q0 hw0 ⊢
    have hw1:=wordV_bnd bs 8
    obtain ⟨w1,hw1e⟩:∃ w,wordV bs 8 8=w:=⟨_,rfl⟩
    simp only [hw1e] at q1 hw1 ⊢
    have qt:=fun (cl:Nat) (h6:Hp) (n6:Nat) (hR6:RgH h6 n6 A L)=>(mtext_ev k (d+3*f+14) cl h6 n6 hk (some ⟨tid,toff,none⟩) T.length tc A L gc hR6 hl hE hC w0 w1 hw0.1 hw0.2 hw1.1 hw1.2).mono (Φ':=fun v h' n'=>v = .tuple ⟨[.string ⟨⟨(textB L w0 w1).1⟩⟩,.int .i64 (textB L w0 w1).2]⟩∧h6=h'∧n6=n') fun _ _ _ hp=>⟨hp.1,hp.2.1.symm,hp.2.2.symm⟩
    have hte:=textB_err (L:=L) (a:=w0) (w:=w1)
    obtain ⟨r,hr⟩:∃ r,textB L w0 w1=r:=⟨_,rfl⟩
    simp only [hr] at qt hte ⊢
    obtain ⟨ts,te⟩:=r
    dsimp only at qt hte ⊢
    by_cases h0:te=0
    ·subst h0
     rw [if_pos rfl]
     refine enter Try.func40 kz rfl kz rfl rfl rfl ?_
     (repeat' first|refine zcd ?_|intro K' hK|(with_reducible refine zn hK ?_;clear hK)|(with_reducible refine x_drawnD (id:=12) [(0,2),(0,4)] kz fun K' hK=>?_)|((with_reducible apply d_nil);(case hp=>exact ezP);(case' hx=>(refine hK _ _ _ ?_;clear hK)))|((with_reducible apply d_pure w_none);(case hp=>exact rfl);(case hc=>exact rfl);(case he=>exact ez1 hti))|((with_reducible apply d_eff w_none);(case hc=>exact rfl);(case he=>exact ez1 hti);(case hok=>exact ezO))|((with_reducible apply d_guard rfl);(case hb=>exact ez1 hti);(case' h1=>intro hb;(try simp only [hbs,reduceCtorEq] at hb);try exact ezX);(case' h2=>intro hb;(try simp only [hbs,reduceCtorEq] at hb);try exact ezX))|((with_reducible apply d_callN (g:=66) w_none);(case hs0=>exact rfl);(case ha=>exact ez0);(case hs=>((first|with_reducible apply q0|with_reducible apply q1|with_reducible apply q2);exact ezD hB));(case' hk=>rintro _ h' n' ⟨rfl,rfl,rfl⟩))|((with_reducible apply d_callS (g:=67) w_none);(case hs0=>exact rfl);(case ha=>exact ez0);(case hs=>((with_reducible apply qt);exact ezG hR));(case' hk=>rintro _ h' n' ⟨rfl,rfl,rfl⟩))|((with_reducible first|apply zo1|apply zo2|apply o_guard rfl|apply x_cond|apply k_e1 rfl|apply k_e2 rfl|apply k_e0 rfl|apply k_e3 rfl|apply k_e4 rfl);(case he=>exact ez1 hti);(try case hok=>exact ezO);all_goals try (intro hb;(try simp only [hbs,reduceCtorEq] at hb);try exact ezX))|((with_reducible apply o_undef rfl);(case hb=>exact ez0)))
     all_goals exact sw_flat rfl rfl ⟨_,rfl,.leaf 3 0 ts false,Nat.le_refl _,fun _ _=>rfl⟩
    ·rw [if_neg h0]
     refine enter Try.func40 kz rfl kz rfl rfl rfl ?_
     (repeat' first|refine zcd ?_|intro K' hK|(with_reducible refine zn hK ?_;clear hK)|(with_reducible refine x_drawnD (id:=12) [(0,2),(0,4)] kz fun K' hK=>?_)|((with_reducible apply d_nil);(case hp=>exact ezP);(case' hx=>(refine hK _ _ _ ?_;clear hK)))|((with_reducible apply d_pure w_none);(case hp=>exact rfl);(case hc=>exact rfl);(case he=>exact ez1 hti))|((with_reducible apply d_eff w_none);(case hc=>exact rfl);(case he=>exact ez1 hti);(case hok=>exact ezO))|((with_reducible apply d_guard rfl);(case hb=>exact ez1 hti);(case' h1=>intro hb;(try simp only [hbs,reduceCtorEq] at hb);try exact ezX);(case' h2=>intro hb;(try simp only [hbs,reduceCtorEq] at hb);try exact ezX))|((with_reducible apply d_callN (g:=66) w_none);(case hs0=>exact rfl);(case ha=>exact ez0);(case hs=>((first|with_reducible apply q0|with_reducible apply q1|with_reducible apply q2);exact ezD hB));(case' hk=>rintro _ h' n' ⟨rfl,rfl,rfl⟩))|((with_reducible apply d_callS (g:=67) w_none);(case hs0=>exact rfl);(case ha=>exact ez0);(case hs=>((with_reducible apply qt);exact ezG hR));(case' hk=>rintro _ h' n' ⟨rfl,rfl,rfl⟩))|((with_reducible first|apply zo1|apply zo2|apply o_guard rfl|apply x_cond|apply k_e1 rfl|apply k_e2 rfl|apply k_e0 rfl|apply k_e3 rfl|apply k_e4 rfl);(case he=>exact ez1 hti);(try case hok=>exact ezO);all_goals try (intro hb;(try simp only [hbs,reduceCtorEq] at hb);try exact ezX))|((with_reducible apply o_undef rfl);(case hb=>exact ez0)))
     all_goals exact sw_flat rfl rfl ⟨rfl,h0,rfl,rfl⟩
   ·rw [if_neg k3]
    have hfol:∀ (y:Nat) (hy:el=(y:Int)) (hoy:OkV T y) (w:Int) (hw:0≤w∧w<18446744073709551616) (nn mo:Nat),nn≤mo→mo≤16→∀ (cl:Nat) (h6:Hp) (n6:Nat),TabH h6 n6 (some ⟨tid,toff,none⟩) T→RgH h6 n6 A L →
      SQ k (d+3*f+22) cl 68 [.agg ⟨[.slice (some ⟨tid,toff,none⟩) T.length tc,.slice A L.length gc]⟩,.int .u64 w,.agg ⟨[.int .u8 kd,.int .i64 el,.int .i64 ln,.slice FA fs.length fc]⟩,.int .i64 nn,.int .i64 mo,.int .i64 dp] h6 n6 (LdW kd (folP (loadP T L f) T L ⟨kd,el,ln,fs,FA,fc⟩ w nn mo dp) h6 n6):=fun y hy hoy w hw nn mo hnm hmo cl h6 n6 hT6 hR6=>
     mfollow_ev k (d+3*f+10) cl h6 n6 hk (some ⟨tid,toff,none⟩) A T L tc gc hT6 hS hm2 hR6 hl hE hC ⟨kd,el,ln,fs,FA,fc⟩ (by dsimp only;omega) y hy hoy w hw.1 hw.2 nn mo dp hnm hmo hdp (loadP T L f) fun hd1 cl h7 n7 bid2 boff2 m2 c2 bs2 a b c e g i=>ihf y (dp - 1) hoy zm (by have:=hoy.lt;omega) d cl h7 n7 bid2 boff2 c2 m2 bs2 a b c e g i
    by_cases k4:kd=4
    ·rw [if_pos k4]
     have hs:=hs24 (.inr k4)
     obtain ⟨y,hy,hoy⟩:=hpt (.inl k4)
     dsimp only at hy
     subst k4
     have q0:∀ (cl:Nat) (h6:Hp) (n6:Nat) (hB6:RdH h6 n6 (some ⟨bid,boff,none⟩) (bv bs)),SQ k (d+3*f+22) cl 66 [.slice (some ⟨bid,boff,none⟩) bs.length bc,.int .i64 0] h6 n6 fun v h' n'=>v = .int .u64 (wordV bs 0 8)∧h6=h'∧n6=n':=fun cl h6 n6 hB6=>(vword_ev k (d+3*f+21) cl h6 n6 hk (some ⟨bid,boff,none⟩) bs bc hB6 0 zm zm).mono fun _ _ _ hp=>⟨hp.1,hp.2.1.symm,hp.2.2.symm⟩
     have hw0:=wordV_bnd bs 0
     obtain ⟨w0,hw0e⟩:∃ w,wordV bs 0 8=w:=⟨_,rfl⟩
     simp only [hw0e] at q0 hw0 ⊢
     by_cases hz:w0=0
     ·rw [if_pos hz]
      subst hz
      refine enter Try.func40 kz rfl kz rfl rfl rfl ?_
      (repeat' first|refine zcd ?_|intro K' hK|(with_reducible refine zn hK ?_;clear hK)|((with_reducible apply o_callF (g:=66) w_none);(case ha=>exact ez0);(case hs=>((first|with_reducible apply q0|with_reducible apply q1|with_reducible apply q2);exact ezD hB));(case' hk=>rintro _ h' n' ⟨rfl,rfl,rfl⟩))|((with_reducible first|apply zo1|apply zo2|apply o_guard rfl|apply x_cond|apply k_e1 rfl|apply k_e2 rfl|apply k_e0 rfl|apply k_e3 rfl|apply k_e4 rfl);(case he=>exact ez1 hti);(try case hok=>exact ezO);all_goals try (intro hb;(try simp only [hbs,reduceCtorEq] at hb);try exact ezX))|((with_reducible apply o_undef rfl);(case hb=>exact ez0)))
      all_goals exact sw_flat rfl rfl ⟨_,rfl,.leaf 4 0 [] false,Nat.le_refl _,fun _ _=>rfl⟩
     ·rw [if_neg hz]
      have qf0:∀ (cl:Nat) (h6:Hp) (n6:Nat),TabH h6 n6 (some ⟨tid,toff,none⟩) T→RgH h6 n6 A L →
        SQ k (d+3*f+22) cl 68 [.agg ⟨[.slice (some ⟨tid,toff,none⟩) T.length tc,.slice A L.length gc]⟩,.int .u64 w0,.agg ⟨[.int .u8 4,.int .i64 el,.int .i64 ln,.slice FA fs.length fc]⟩,.int .i64 1,.int .i64 1,.int .i64 dp] h6 n6 (LdW 4 (folP (loadP T L f) T L ⟨4,el,ln,fs,FA,fc⟩ w0 1 1 dp) h6 n6):=hfol y hy hoy w0 hw0 1 1 (Nat.le_refl _) zm
      obtain ⟨res,hres⟩:∃ res,folP (loadP T L f) T L ⟨4,el,ln,fs,FA,fc⟩ w0 1 1 dp=res:=⟨_,rfl⟩
      rw [hres] at qf0 ⊢
      cases res with
      | error e=>
       have qf:=fun (cl:Nat) (h6:Hp) (n6:Nat) (hT6:TabH h6 n6 (some ⟨tid,toff,none⟩) T) (hR6:RgH h6 n6 A L)=>(qf0 cl h6 n6 hT6 hR6).mono (Φ':=fun v h' n'=>v = .tuple ⟨[.agg ⟨vcell 4 0 [] none 0 0 false⟩,.int .i64 e]⟩∧e≠0∧h6=h'∧n6=n') fun _ _ _ hp=>⟨hp.1,hp.2.1,hp.2.2.1.symm,hp.2.2.2.symm⟩
       refine enter Try.func40 kz rfl kz rfl rfl rfl ?_
       (repeat' first|refine zcd ?_|intro K' hK|(with_reducible refine zn hK ?_;clear hK)|((with_reducible apply o_callF (g:=66) w_none);(case ha=>exact ez0);(case hs=>((first|with_reducible apply q0|with_reducible apply q1|with_reducible apply q2);exact ezD hB));(case' hk=>rintro _ h' n' ⟨rfl,rfl,rfl⟩))|((with_reducible apply o_callF (g:=68) w_none);(case ha=>exact ez0);(case hs=>((with_reducible apply qf);(all_goals first|exact ezT hT|exact ezG hR)));(case' hk=>rintro _ h' n' ⟨rfl,he0,rfl,rfl⟩))|((with_reducible first|apply zo1|apply zo2|apply o_guard rfl|apply x_cond|apply k_e1 rfl|apply k_e2 rfl|apply k_e0 rfl|apply k_e3 rfl|apply k_e4 rfl);(case he=>exact ez1 hti);(try case hok=>exact ezO);all_goals try (intro hb;(try simp only [hbs,reduceCtorEq] at hb);try exact ezX))|((with_reducible apply o_undef rfl);(case hb=>exact ez0)))
       all_goals exact sw_flat rfl rfl ⟨rfl,he0,rfl,rfl⟩
      | ok xv=>
       have qf:=fun (cl:Nat) (h6:Hp) (n6:Nat) (hT6:TabH h6 n6 (some ⟨tid,toff,none⟩) T) (hR6:RgH h6 n6 A L)=>(qf0 cl h6 n6 hT6 hR6).mono (Φ':=fun v h' n'=>∃ A1 cc1,v = .tuple ⟨[.agg ⟨vcell xv.kd xv.i xv.s A1 xv.l.length cc1 xv.c⟩,.int .i64 0]⟩∧FH h' n6 n' xv (vcell xv.kd xv.i xv.s A1 xv.l.length cc1 xv.c)∧n6≤n'∧∀ b,b<n6→h'.get b=h6.get b) fun v h' n' ⟨cs,e1,hf,a,b⟩=>by
        obtain ⟨A1,cc1,rfl⟩:=hf.cells
        exact ⟨A1,cc1,e1,hf,a,b⟩
       refine enter Try.func40 kz rfl kz rfl rfl rfl ?_
       (repeat' first|refine zcd ?_|intro K' hK|(with_reducible refine zn hK ?_;clear hK)|((with_reducible apply o_callF (g:=66) w_none);(case ha=>exact ez0);(case hs=>((first|with_reducible apply q0|with_reducible apply q1|with_reducible apply q2);exact ezD hB));(case' hk=>rintro _ h' n' ⟨rfl,rfl,rfl⟩))|((with_reducible apply o_callF (g:=68) w_none);(case ha=>exact ez0);(case hs=>((with_reducible apply qf);(all_goals first|exact ezT hT|exact ezG hR)));(case' hk=>rintro _ h' n' ⟨A1,cc1,rfl,hfx,hn6,hk6⟩))|((with_reducible first|apply zo1|apply zo2|apply o_guard rfl|apply x_cond|apply k_e1 rfl|apply k_e2 rfl|apply k_e0 rfl|apply k_e3 rfl|apply k_e4 rfl);(case he=>exact ez1 hti);(try case hok=>exact ezO);all_goals try (intro hb;(try simp only [hbs,reduceCtorEq] at hb);try exact ezX))|((with_reducible apply o_undef rfl);(case hb=>exact ez0)))
       have r8:rowOf h' (n+1)=some (32,false,vcell 4 0 [] none 0 0 false):=by
        rw [rowOf_keep (hk6 _ zm)]
        simp (disch:=first|assumption|omega|rfl|decide) only [go_sem,seval,tys]
        try rfl
       have w8:=rwOf_row r8
       (repeat' first|refine zcd ?_|intro K' hK|(with_reducible refine zn hK ?_;clear hK)|fail|((with_reducible first|apply zo1|apply zo2|apply o_guard rfl|apply x_cond|apply k_e1 rfl|apply k_e2 rfl|apply k_e0 rfl|apply k_e3 rfl|apply k_e4 rfl);(case he=>exact ez1 w8);(try case hok=>exact ezO);all_goals try (intro hb;(try simp only [hbs,reduceCtorEq] at hb);try exact ezX))|((with_reducible apply o_undef rfl);(case hb=>exact ez0)))
       refine sw_fh (hfx.keep zm (Nat.le_refl _) fun b hb1 hb2=>by (repeat rw [Hp.get_ne _ _ zm])) zm (fun b hb=>by (repeat rw [Hp.get_ne _ _ zm]);rw [hk6 _ zm];(repeat rw [Hp.get_ne _ _ zm])) fun cs2 h2 n2 a b c=>⟨cs2,rfl,a,b,c⟩
    ·rw [if_neg k4]
     by_cases k7:kd=7
     ·rw [if_pos k7]
      have hs:=hs7 k7
      obtain ⟨y,hy,hoy⟩:=hpt (.inr k7)
      dsimp only at hy
      subst k7
      have q0:∀ (cl:Nat) (h6:Hp) (n6:Nat) (hB6:RdH h6 n6 (some ⟨bid,boff,none⟩) (bv bs)),SQ k (d+3*f+22) cl 66 [.slice (some ⟨bid,boff,none⟩) bs.length bc,.int .i64 0] h6 n6 fun v h' n'=>v = .int .u64 (wordV bs 0 8)∧h6=h'∧n6=n':=fun cl h6 n6 hB6=>(vword_ev k (d+3*f+21) cl h6 n6 hk (some ⟨bid,boff,none⟩) bs bc hB6 0 zm zm).mono fun _ _ _ hp=>⟨hp.1,hp.2.1.symm,hp.2.2.symm⟩
      have q1:∀ (cl:Nat) (h6:Hp) (n6:Nat) (hB6:RdH h6 n6 (some ⟨bid,boff,none⟩) (bv bs)),SQ k (d+3*f+22) cl 66 [.slice (some ⟨bid,boff,none⟩) bs.length bc,.int .i64 1] h6 n6 fun v h' n'=>v = .int .u64 (wordV bs 8 8)∧h6=h'∧n6=n':=fun cl h6 n6 hB6=>(vword_ev k (d+3*f+21) cl h6 n6 hk (some ⟨bid,boff,none⟩) bs bc hB6 1 zm zm).mono fun _ _ _ hp=>⟨hp.1,hp.2.1.symm,hp.2.2.symm⟩
      have q2:∀ (cl:Nat) (h6:Hp) (n6:Nat) (hB6:RdH h6 n6 (some ⟨bid,boff,none⟩) (bv bs)),SQ k (d+3*f+22) cl 66 [.slice (some ⟨bid,boff,none⟩) bs.length bc,.int .i64 2] h6 n6 fun v h' n'=>v = .int .u64 (wordV bs 16 8)∧h6=h'∧n6=n':=fun cl h6 n6 hB6=>(vword_ev k (d+3*f+21) cl h6 n6 hk (some ⟨bid,boff,none⟩) bs bc hB6 2 zm zm).mono fun _ _ _ hp=>⟨hp.1,hp.2.1.symm,hp.2.2.symm⟩
      have hw0:=wordV_bnd bs 0
      obtain ⟨w0,hw0e⟩:∃ w,wordV bs 0 8=w:=⟨_,rfl⟩
      simp only [hw0e] at q0 hw0 ⊢
      have hw1:=wordV_bnd bs 8
      obtain ⟨w1,hw1e⟩:∃ w,wordV bs 8 8=w:=⟨_,rfl⟩
      simp only [hw1e] at q1 hw1 ⊢
      have hw2:=wordV_bnd bs 16
      obtain ⟨w2,hw2e⟩:∃ w,wordV bs 16 8=w:=⟨_,rfl⟩
      simp only [hw2e] at q2 hw2 ⊢
      by_cases hc:w2<w1∨16<w2∨(w0=0∧0<w2)
      ·rw [if_pos hc]
       refine enter Try.func40 kz rfl kz rfl rfl rfl ?_
       (repeat' first|refine zcd ?_|intro K' hK|(with_reducible refine zn hK ?_;clear hK)|((with_reducible apply o_callF (g:=66) w_none);(case ha=>exact ez0);(case hs=>((first|with_reducible apply q0|with_reducible apply q1|with_reducible apply q2);exact ezD hB));(case' hk=>rintro _ h' n' ⟨rfl,rfl,rfl⟩))|((with_reducible first|apply zo1|apply zo2|apply o_guard rfl|apply x_cond|apply k_e1 rfl|apply k_e2 rfl|apply k_e0 rfl|apply k_e3 rfl|apply k_e4 rfl);(case he=>exact ez1 hti);(try case hok=>exact ezO);all_goals try (intro hb;(try simp only [hbs,reduceCtorEq] at hb);try exact ezX))|((with_reducible apply o_undef rfl);(case hb=>exact ez0)))
       all_goals exact sw_flat rfl rfl ⟨rfl,by decide,rfl,rfl⟩
      ·rw [if_neg hc]
       by_cases hz:w0=0
       ·rw [if_pos hz]
        subst hz
        have hw20:w2=0:=by omega
        have hw10:w1=0:=by omega
        subst hw20
        subst hw10
        refine enter Try.func40 kz rfl kz rfl rfl rfl ?_
        (repeat' first|refine zcd ?_|intro K' hK|(with_reducible refine zn hK ?_;clear hK)|((with_reducible apply o_callF (g:=66) w_none);(case ha=>exact ez0);(case hs=>((first|with_reducible apply q0|with_reducible apply q1|with_reducible apply q2);exact ezD hB));(case' hk=>rintro _ h' n' ⟨rfl,rfl,rfl⟩))|((with_reducible first|apply zo1|apply zo2|apply o_guard rfl|apply x_cond|apply k_e1 rfl|apply k_e2 rfl|apply k_e0 rfl|apply k_e3 rfl|apply k_e4 rfl);(case he=>exact ez1 hti);(try case hok=>exact ezO);all_goals try (intro hb;(try simp only [hbs,reduceCtorEq] at hb);try exact ezX))|((with_reducible apply o_undef rfl);(case hb=>exact ez0)))
        all_goals exact sw_flat rfl rfl ⟨_,rfl,.leaf 7 0 [] false,Nat.le_refl _,fun _ _=>rfl⟩
       ·rw [if_neg hz]
        obtain ⟨m1,rfl⟩:=Int.eq_ofNat_of_zero_le hw1.1
        obtain ⟨m2,rfl⟩:=Int.eq_ofNat_of_zero_le hw2.1
        have qf0:=hfol y hy hoy w0 hw0 m1 m2 zm zm
        simp only [Int.toNat_natCast]
        obtain ⟨res,hres⟩:∃ res,folP (loadP T L f) T L ⟨7,el,ln,fs,FA,fc⟩ w0 m1 m2 dp=res:=⟨_,rfl⟩
        rw [hres] at qf0 ⊢
        cases res with
        | error e=>
         have qf:=fun (cl:Nat) (h6:Hp) (n6:Nat) (hT6:TabH h6 n6 (some ⟨tid,toff,none⟩) T) (hR6:RgH h6 n6 A L)=>(qf0 cl h6 n6 hT6 hR6).mono (Φ':=fun v h' n'=>v = .tuple ⟨[.agg ⟨vcell 7 0 [] none 0 0 false⟩,.int .i64 e]⟩∧e≠0∧h6=h'∧n6=n') fun _ _ _ hp=>⟨hp.1,hp.2.1,hp.2.2.1.symm,hp.2.2.2.symm⟩
         refine enter Try.func40 kz rfl kz rfl rfl rfl ?_
         (repeat' first|refine zcd ?_|intro K' hK|(with_reducible refine zn hK ?_;clear hK)|((with_reducible apply o_callF (g:=66) w_none);(case ha=>exact ez0);(case hs=>((first|with_reducible apply q0|with_reducible apply q1|with_reducible apply q2);exact ezD hB));(case' hk=>rintro _ h' n' ⟨rfl,rfl,rfl⟩))|((with_reducible apply o_callF (g:=68) w_none);(case ha=>exact ez0);(case hs=>((with_reducible apply qf);(all_goals first|exact ezT hT|exact ezG hR)));(case' hk=>rintro _ h' n' ⟨rfl,he0,rfl,rfl⟩))|((with_reducible first|apply zo1|apply zo2|apply o_guard rfl|apply x_cond|apply k_e1 rfl|apply k_e2 rfl|apply k_e0 rfl|apply k_e3 rfl|apply k_e4 rfl);(case he=>exact ez1 hti);(try case hok=>exact ezO);all_goals try (intro hb;(try simp only [hbs,reduceCtorEq] at hb);try exact ezX))|((with_reducible apply o_undef rfl);(case hb=>exact ez0)))
         all_goals exact sw_flat rfl rfl ⟨rfl,he0,rfl,rfl⟩
        | ok xv=>
         have qf:=fun (cl:Nat) (h6:Hp) (n6:Nat) (hT6:TabH h6 n6 (some ⟨tid,toff,none⟩) T) (hR6:RgH h6 n6 A L)=>(qf0 cl h6 n6 hT6 hR6).mono (Φ':=fun v h' n'=>∃ A1 cc1,v = .tuple ⟨[.agg ⟨vcell xv.kd xv.i xv.s A1 xv.l.length cc1 xv.c⟩,.int .i64 0]⟩∧FH h' n6 n' xv (vcell xv.kd xv.i xv.s A1 xv.l.length cc1 xv.c)∧n6≤n'∧∀ b,b<n6→h'.get b=h6.get b) fun v h' n' ⟨cs,e1,hf,a,b⟩=>by
          obtain ⟨A1,cc1,rfl⟩:=hf.cells
          exact ⟨A1,cc1,e1,hf,a,b⟩
         refine enter Try.func40 kz rfl kz rfl rfl rfl ?_
         (repeat' first|refine zcd ?_|intro K' hK|(with_reducible refine zn hK ?_;clear hK)|((with_reducible apply o_callF (g:=66) w_none);(case ha=>exact ez0);(case hs=>((first|with_reducible apply q0|with_reducible apply q1|with_reducible apply q2);exact ezD hB));(case' hk=>rintro _ h' n' ⟨rfl,rfl,rfl⟩))|((with_reducible apply o_callF (g:=68) w_none);(case ha=>exact ez0);(case hs=>((with_reducible apply qf);(all_goals first|exact ezT hT|exact ezG hR)));(case' hk=>rintro _ h' n' ⟨A1,cc1,rfl,hfx,hn6,hk6⟩))|((with_reducible first|apply zo1|apply zo2|apply o_guard rfl|apply x_cond|apply k_e1 rfl|apply k_e2 rfl|apply k_e0 rfl|apply k_e3 rfl|apply k_e4 rfl);(case he=>exact ez1 hti);(try case hok=>exact ezO);all_goals try (intro hb;(try simp only [hbs,reduceCtorEq] at hb);try exact ezX))|((with_reducible apply o_undef rfl);(case hb=>exact ez0)))
         have r8:rowOf h' (n+1)=some (32,false,vcell 7 0 [] none 0 0 false):=by
          rw [rowOf_keep (hk6 _ zm)]
          simp (disch:=first|assumption|omega|rfl|decide) only [go_sem,seval,tys]
          try rfl
         have w8:=rwOf_row r8
         (repeat' first|refine zcd ?_|intro K' hK|(with_reducible refine zn hK ?_;clear hK)|fail|((with_reducible first|apply zo1|apply zo2|apply o_guard rfl|apply x_cond|apply k_e1 rfl|apply k_e2 rfl|apply k_e0 rfl|apply k_e3 rfl|apply k_e4 rfl);(case he=>exact ez1 w8);(try case hok=>exact ezO);all_goals try (intro hb;(try simp only [hbs,reduceCtorEq] at hb);try exact ezX))|((with_reducible apply o_undef rfl);(case hb=>exact ez0)))
         refine sw_fh (hfx.keep zm (Nat.le_refl _) fun b hb1 hb2=>by (repeat rw [Hp.get_ne _ _ zm])) zm (fun b hb=>by (repeat rw [Hp.get_ne _ _ zm]);rw [hk6 _ zm];(repeat rw [Hp.get_ne _ _ zm])) fun cs2 h2 n2 a b c=>⟨cs2,rfl,a,b,c⟩
     ·rw [if_neg k7]
      have k56:kd=5∨kd=6:=by omega
      have qp:=fun (cl:Nat) (h6:Hp) (n6:Nat) (hr6:RdH h6 n6 FA (fv fs))=>((vparts_ev k (d+3*f+21) cl h6 n6 hk ⟨kd,el,ln,fs,FA,fc⟩ hfi hr6)).mono fun _ _ _ hh=>IntsV.rd hh
      have qo:=fun (cl:Nat) (h6:Hp) (n6:Nat) (hT6:TabH h6 n6 (some ⟨tid,toff,none⟩) T)=>(voffs_ev k (d+3*f+12) cl h6 n6 hk (some ⟨tid,toff,none⟩) T tc hT6 hS hm2 t ho ⟨kd,el,ln,fs,FA,fc⟩ hx).mono fun _ _ _ hh=>IntsV.rd hh
      obtain ⟨ps,hps⟩:∃ ps,prtT ⟨kd,el,ln,fs,FA,fc⟩=ps:=⟨_,rfl⟩
      obtain ⟨os,hos⟩:∃ os,offsT T ⟨kd,el,ln,fs,FA,fc⟩=os:=⟨_,rfl⟩
      simp only [hps] at qp hpl hpi ⊢
      simp only [hos] at qo hpl hpi ⊢
      obtain ⟨res,hres⟩:∃ res,listP (loadP T L f dp) bs (ps.zip os)=res:=⟨_,rfl⟩
      rw [hres]
      refine enter Try.func40 kz rfl kz rfl rfl rfl ?_
      (repeat' first|refine zcd ?_|intro K' hK|(with_reducible refine zn hK ?_;clear hK)|(with_reducible refine x_drawnD (id:=4) [(0,2),(0,3),(0,5),(2,5),(3,5),(0,6),(2,6),(3,6),(5,6),(0,7)] kz fun K' hK=>?_)|((with_reducible apply d_nil);(case hp=>exact ezP);(case' hx=>(refine hK _ _ _ ?_;clear hK)))|((with_reducible apply d_pure w_none);(case hp=>exact rfl);(case hc=>exact rfl);(case he=>exact ez1 hti))|((with_reducible apply d_eff w_none);(case hc=>exact rfl);(case he=>exact ez1 hti);(case hok=>exact ezO))|((with_reducible apply d_guard rfl);(case hb=>exact ez1 hti);(case' h1=>intro hb;(try simp only [hbs,reduceCtorEq] at hb);try exact ezX);(case' h2=>intro hb;(try simp only [hbs,reduceCtorEq] at hb);try exact ezX))|((with_reducible apply d_callN (g:=70) w_none);(case hs0=>exact rfl);(case ha=>exact ez0);(case hs=>((with_reducible apply qp);exact ezD hfd));(case' hk=>rintro _ h' n' ⟨PA,pc,rfl,hrP,hPn,hn2,hk2⟩))|((with_reducible first|apply zo1|apply zo2|apply o_guard rfl|apply x_cond|apply k_e1 rfl|apply k_e2 rfl|apply k_e0 rfl|apply k_e3 rfl|apply k_e4 rfl);(case he=>exact ez1 hti);(try case hok=>exact ezO);all_goals try (intro hb;(try simp only [hbs,reduceCtorEq] at hb);try exact ezX))|((with_reducible apply o_undef rfl);(case hb=>exact ez0)))
      obtain ⟨h7,hh7⟩:∃ y,y=h':=⟨_,rfl⟩
      obtain ⟨n7,hn7⟩:∃ y,y=n':=⟨_,rfl⟩
      subst hh7
      subst hn7
      have r4:rowOf h7 n=some (78,false,[.slice (some ⟨tid,toff,none⟩) T.length tc,.slice A L.length gc]):=by
       rw [rowOf_keep (hk2 _ zm)]
       simp (disch:=first|assumption|omega|rfl|decide) only [go_sem,seval,tys]
       try rfl
      have r8:rowOf h7 (n+1)=some (32,false,vcell kd 0 [] none 0 0 false):=by
       rw [rowOf_keep (hk2 _ zm)]
       simp (disch:=first|assumption|omega|rfl|decide) only [go_sem,seval,tys]
       try rfl
      have r10:rowOf h7 (n+2)=some (64,false,[.int .u8 kd,.int .i64 el,.int .i64 ln,.slice FA fs.length fc]):=by
       rw [rowOf_keep (hk2 _ zm)]
       simp (disch:=first|assumption|omega|rfl|decide) only [go_sem,seval,tys]
       try rfl
      have hkp:∀ b,b<n→h7.get b=h.get b:=fun b hb=>by
       rw [hk2 _ zm]
       (repeat rw [Hp.get_ne _ _ zm])
      have f4:=cellAt_row (off:=0) r4
      have f10:=cellsAt_row (off:=0) (k:=4) r10
      have hT7:TabH h7 n7 (some ⟨tid,toff,none⟩) T:=(hT.keep (Nat.le_refl _) hkp).more zm
      (repeat' first|refine zcd ?_|intro K' hK|(with_reducible refine zn hK ?_;clear hK)|((with_reducible apply d_nil);(case hp=>exact ezP);(case' hx=>(refine hK _ _ _ ?_;clear hK)))|((with_reducible apply d_pure w_none);(case hp=>exact rfl);(case hc=>exact rfl);(case he=>exact ez2 f4 f10))|((with_reducible apply d_eff w_none);(case hc=>exact rfl);(case he=>exact ez2 f4 f10);(case hok=>exact ezO))|((with_reducible apply d_guard rfl);(case hb=>exact ez2 f4 f10);(case' h1=>intro hb;(try simp only [hbs,reduceCtorEq] at hb);try exact ezX);(case' h2=>intro hb;(try simp only [hbs,reduceCtorEq] at hb);try exact ezX))|((with_reducible apply d_callN (g:=71) w_none);(case hs0=>exact rfl);(case ha=>exact ez0);(case hs=>((with_reducible apply qo);(exact hT7)));(case' hk=>rintro _ h' n' ⟨QA,qc,rfl,hrQ,hQn,hn3,hk3⟩))|((with_reducible first|apply zo1|apply zo2|apply o_guard rfl|apply x_cond|apply k_e1 rfl|apply k_e2 rfl|apply k_e0 rfl|apply k_e3 rfl|apply k_e4 rfl);(case he=>exact ez0);(try case hok=>exact ezO);all_goals try (intro hb;(try simp only [hbs,reduceCtorEq] at hb);try exact ezX))|((with_reducible apply o_undef rfl);(case hb=>exact ez0)))
      obtain ⟨h9,hh9⟩:∃ y,y=h':=⟨_,rfl⟩
      obtain ⟨n9,hn9⟩:∃ y,y=n':=⟨_,rfl⟩
      subst hh9
      subst hn9
      have hkp9:∀ b,b<n→h9.get b=h.get b:=fun b hb=>by rw [hk3 _ zm];exact hkp b hb
      have hrP9:RdH h9 n9 PA (iv ps):=(hrP.keep (Nat.le_refl _) hk3).more hn3
      have hB9:RdH h9 n9 (some ⟨bid,boff,none⟩) (bv bs):=(hB.keep (Nat.le_refl _) hkp9).more zm
      have hT9:TabH h9 n9 (some ⟨tid,toff,none⟩) T:=(hT.keep (Nat.le_refl _) hkp9).more zm
      have hR9:RgH h9 n9 A L:=(hR.keep (Nat.le_refl _) hkp9).more zm
      have ql:=mlist_ev k (d+3*f+21) n h9 n9 hk (some ⟨tid,toff,none⟩) T.length tc A L.length gc bid boff bc bs PA QA ps os pc qc ps.length os.length dp (loadP T L f dp) hB9 hrP9 hrQ rfl rfl hpl.1 zm zm (fun j hj=>by
       obtain ⟨y, -, -,hoy,a,b⟩:=hpi j zm hj
       have:=hoy.bnd
       omega) (fun j hj hj2 cl h6 n6 m c hn6 hk6 hm6 hr6=>by
       obtain ⟨y,e1,hyt,hoy,a,b⟩:=hpi j hj hj2
       rw [e1,Int.toNat_natCast]
       have e2:=ihf y dp hoy hdp zm (d+1) cl h6 n6 bid (boff+os[j].toNat) c m (bs.drop os[j].toNat) ((hT9.keep (Nat.le_refl _) hk6).more hn6) ((hR9.keep (Nat.le_refl _) hk6).more hn6) hm6 hr6 (by rw [List.length_drop];omega) (by rw [List.length_drop];omega)
       rw [show d+1+3*f+20=d+3*f+21 from by omega] at e2
       exact e2)
      have r8':rowOf h9 (n+1)=some (32,false,vcell kd 0 [] none 0 0 false):=by rw [rowOf_keep (hk3 _ zm)];exact r8
      have w8:=rwOf_row r8'
      have hpl0:0<ps.length:=by
       rw [← hps]
       unfold prtT
       rw [List.length_append]
       rcases k56 with k5|k6
       ·have:=fine_some0 hfi k5
        dsimp only at this ⊢
        rw [List.length_map]
        omega
       ·have:=fine_arr hfi k6
        dsimp only at this ⊢
        rw [List.length_replicate]
        omega
      rw [hres] at ql
      have hrl:=fun l (e:res = .ok l)=>listP_len (loadP T L f dp) bs _ l (hres.trans e)
      cases res with
      | error e=>
       have ql:SQ k (d+3*f+22) n 69 [.agg ⟨[.slice (some ⟨tid,toff,none⟩) T.length tc,.slice A L.length gc]⟩,.slice (some ⟨bid,boff,none⟩) bs.length bc,.slice PA ps.length pc,.slice QA os.length qc,.int .i64 dp] h9 n9 fun v h' n'=>v = .tuple ⟨[.slice none 0 0,.int .i64 e]⟩∧e≠0∧h9=h'∧n9=n':=ql.mono fun _ _ _ hp=>⟨hp.1,hp.2.1,hp.2.2.1.symm,hp.2.2.2.symm⟩
       (repeat' first|refine zcd ?_|intro K' hK|(with_reducible refine zn hK ?_;clear hK)|((with_reducible apply d_nil);(case hp=>exact ezP);(case' hx=>(refine hK _ _ _ ?_;clear hK)))|((with_reducible apply d_pure w_none);(case hp=>exact rfl);(case hc=>exact rfl);(case he=>exact ez1 w8))|((with_reducible apply d_eff w_none);(case hc=>exact rfl);(case he=>exact ez1 w8);(case hok=>exact ezO))|((with_reducible apply d_guard rfl);(case hb=>exact ez1 w8);(case' h1=>intro hb;(try simp only [hbs,reduceCtorEq] at hb);try exact ezX);(case' h2=>intro hb;(try simp only [hbs,reduceCtorEq] at hb);try exact ezX))|((with_reducible apply d_callS (g:=69) w_none);(case hs0=>exact rfl);(case ha=>exact ez0);(case hs=>(exact ql));(case' hk=>rintro _ h' n' ⟨rfl,he0,rfl,rfl⟩))|((with_reducible first|apply zo1|apply zo2|apply o_guard rfl|apply x_cond|apply k_e1 rfl|apply k_e2 rfl|apply k_e0 rfl|apply k_e3 rfl|apply k_e4 rfl);(case he=>exact ez1 w8);(try case hok=>exact ezO);all_goals try (intro hb;(try simp only [hbs,reduceCtorEq] at hb);try exact ezX))|((with_reducible apply o_undef rfl);(case hb=>exact ez0)))
       all_goals exact sw_flat rfl rfl ⟨rfl,he0,rfl,rfl⟩
      | ok l=>
       have hll:=hrl l rfl
       rw [List.length_zip] at hll
       have ql:SQ k (d+3*f+22) n 69 [.agg ⟨[.slice (some ⟨tid,toff,none⟩) T.length tc,.slice A L.length gc]⟩,.slice (some ⟨bid,boff,none⟩) bs.length bc,.slice PA ps.length pc,.slice QA os.length qc,.int .i64 dp] h9 n9 fun v h' n'=>∃ lid,v = .tuple ⟨[.slice (some ⟨lid,0,none⟩) l.length l.length,.int .i64 0]⟩∧FHs h' n9 n' l (.slice (some ⟨lid,0,none⟩) l.length l.length)∧n9≤n'∧∀ b,b<n9→h'.get b=h9.get b:=ql.mono fun v h' n' ⟨O,e1,hf,a,b⟩=>by
        rcases hf with ⟨e2, -⟩|⟨hne,lid,rows,x1,x2,e3,x4⟩
        ·rw [e2] at hll;simp at hll;omega
        ·subst e3
         exact ⟨lid,e1,.inr ⟨hne,lid,rows,x1,x2,rfl,x4⟩,a,b⟩
       (repeat' first|refine zcd ?_|intro K' hK|(with_reducible refine zn hK ?_;clear hK)|((with_reducible apply d_callS (g:=69) w_none);(case hs0=>exact rfl);(case ha=>exact ez0);(case hs=>(exact ql));(case' hk=>rintro _ h' n' ⟨lid,rfl,hfx,hn6,hk6⟩))|((with_reducible first|apply zo1|apply zo2|apply o_guard rfl|apply x_cond|apply k_e1 rfl|apply k_e2 rfl|apply k_e0 rfl|apply k_e3 rfl|apply k_e4 rfl);(case he=>exact ez0);(try case hok=>exact ezO);all_goals try (intro hb;(try simp only [hbs,reduceCtorEq] at hb);try exact ezX))|((with_reducible apply o_undef rfl);(case hb=>exact ez0)))
       have w8:=rwOf_row (show rowOf h' (n+1)=_ from by rw [rowOf_keep (hk6 _ zm)];exact r8')
       (repeat' first|refine zcd ?_|intro K' hK|(with_reducible refine zn hK ?_;clear hK)|((with_reducible apply d_nil);(case hp=>exact ezP);(case' hx=>(refine hK _ _ _ ?_;clear hK)))|((with_reducible apply d_pure w_none);(case hp=>exact rfl);(case hc=>exact rfl);(case he=>exact ez1 w8))|((with_reducible apply d_eff w_none);(case hc=>exact rfl);(case he=>exact ez1 w8);(case hok=>exact ezO))|((with_reducible apply d_guard rfl);(case hb=>exact ez1 w8);(case' h1=>intro hb;(try simp only [hbs,reduceCtorEq] at hb);try exact ezX);(case' h2=>intro hb;(try simp only [hbs,reduceCtorEq] at hb);try exact ezX))|((with_reducible first|apply zo1|apply zo2|apply o_guard rfl|apply x_cond|apply k_e1 rfl|apply k_e2 rfl|apply k_e0 rfl|apply k_e3 rfl|apply k_e4 rfl);(case he=>exact ez1 w8);(try case hok=>exact ezO);all_goals try (intro hb;(try simp only [hbs,reduceCtorEq] at hb);try exact ezX))|((with_reducible apply o_undef rfl);(case hb=>exact ez0)))
       refine sw_fh (FHs.val (hfx.keep zm (Nat.le_refl _) fun b hb1 hb2=>by (repeat rw [Hp.get_ne _ _ zm])) kd 0 [] false) zm (ezC hk6 hkp9) fun cs2 h2 n2 a b c=>⟨cs2,rfl,a,b,c⟩
end
section
open Go.RowKit
section
variable {P:Program} {F:CallE} {lim:Nat} {ops l:List Oper} {dst:Option Tmp} {ty:TypeId} {pos:String} {af:Array Edge} {f:Fm} {h:Hp} {n:Nat} {Φ:Value→Hp→Nat→Prop} {KO:Fm→Hp→Nat→Prop}
theorem o_callC {gd:Option (Nat × Bool)} {x:Operand} {args:List Operand} {ts:Array TypeId} {g:FuncId} {cap vs:List Value} (hw:wantsF ops gd f=some true) (hx:lv f x = .func (.func g) ⟨[]⟩ ⟨cap⟩) (ha:args.map (lv f) ++ cap=vs)
  (hs:Sp P F lim g vs h n Φ) (hk:∀ v h' n',Φ v h' n'→XO P F lim ops l (fput f dst v) h' n' KO):XO P F lim ops (⟨dst,.call ⟨.value x,args.toArray,ts⟩,ty,pos,af,gd⟩ :: l) f h n KO:=
 o_call (g:=g) (cap:=⟨cap⟩) hw hx (by simp [ha]) hs hk
end
variable (k d cl:Nat) (h:Hp) (n:Nat)
theorem ifuncV_ev (hk:30000≤k) (g:FuncId) (cap:List Value) (A:Option Addr) (l:List V) (c:Nat) (hL:LH h n A l) (hl:l.length≤20000) (p:Nat→Bool)
  (hp:∀ j (hj:j<l.length) (cl:Nat) (cs:List Value),VH h n l[j] cs→SQ k d cl g (.agg ⟨cs⟩ :: cap) h n fun v h' n'=>v = .bool (p j)∧h=h'∧n=n') :
  SQ k (d+1) cl 114 [.slice A l.length c,.func (.func g) ⟨[]⟩ ⟨cap⟩] h n fun v h' n'=>(∃ x:Int,v = .int .i64 x∧(x<0↔∀ j,j<l.length→p j=false))∧h=h'∧n=n':=by
 refine enter Try.func114 kz rfl kz rfl rfl rfl ?_
 (repeat' first|refine zcd ?_|intro K' hK|(with_reducible refine zn hK ?_;clear hK)|fail|((with_reducible first|apply zo1|apply zo2|apply o_guard rfl|apply x_cond|apply k_e1 rfl|apply k_e2 rfl|apply k_e0 rfl|apply k_e3 rfl|apply k_e4 rfl);(case he=>exact ez0);(try case hok=>exact ezO);all_goals try (intro hb;(try simp only [hbs,reduceCtorEq] at hb);try exact ezX))|((with_reducible apply o_undef rfl);(case hb=>exact ez0)))
 refine x_loopF [4,5,8,9,10,11,12,13,14,15,16,17,18] [8] (fun m vs=>∃ q:Nat,m=l.length - q∧q≤l.length∧vs=[.int .i64 q]∧∀ x,x<q→p x=false) l.length rfl zm ⟨0,rfl,by omega,ez0,fun x hx=>absurd hx (Nat.not_lt_zero _)⟩ ?_
 rintro m g1 _ ⟨q,rfl,hq,rfl,hall⟩
 by_cases hql:q<l.length
 ·obtain ⟨id,off,A1,cc1,rfl,hid,c1,v1⟩:=hL.at_ hql
  have hf:=hp q hql n _ v1
  obtain ⟨x,hx⟩:∃ x,l[q]=x:=⟨_,rfl⟩
  rw [hx] at c1 hf
  cases hc:p q with
  | false=>
   rw [hc] at hf
   (repeat' first|refine zcd ?_|intro K' hK|(with_reducible refine zn hK ?_;clear hK)|((with_reducible apply o_callC w_none);(case hx=>exact ez0);(case ha=>exact ez0);(case hs=>(exact hf));(case' hk=>rintro _ h' n' ⟨rfl,rfl,rfl⟩))|((with_reducible first|apply zo1|apply zo2|apply o_guard rfl|apply x_cond|apply k_e1 rfl|apply k_e2 rfl|apply k_e0 rfl|apply k_e3 rfl|apply k_e4 rfl);(case he=>exact ez1 c1);(try case hok=>exact ezO);all_goals try (intro hb;(try simp only [hbs,reduceCtorEq] at hb);try exact ezX))|((with_reducible apply o_undef rfl);(case hb=>exact ez0)))
   refine k_round (l.length - (q+1)) zm ⟨⟨rfl,rfl⟩,q+1,rfl,by omega,ez0,fun y hy=>?_⟩
   by_cases e2:y=q
   ·rw [e2];exact hc
   ·exact hall y zm
  | true=>
   rw [hc] at hf
   (repeat' first|refine zcd ?_|intro K' hK|(with_reducible refine zn hK ?_;clear hK)|((with_reducible apply o_callC w_none);(case hx=>exact ez0);(case ha=>exact ez0);(case hs=>(exact hf));(case' hk=>rintro _ h' n' ⟨rfl,rfl,rfl⟩))|((with_reducible first|apply zo1|apply zo2|apply o_guard rfl|apply x_cond|apply k_e1 rfl|apply k_e2 rfl|apply k_e0 rfl|apply k_e3 rfl|apply k_e4 rfl);(case he=>exact ez1 c1);(try case hok=>exact ezO);all_goals try (intro hb;(try simp only [hbs,reduceCtorEq] at hb);try exact ezX))|((with_reducible apply o_undef rfl);(case hb=>exact ez0)))
   all_goals exact sw_flat rfl rfl ⟨⟨_,rfl,⟨fun hh=>absurd hh zm,fun hh=>by have:=hh q hql;rw [hc] at this;cases this⟩⟩,rfl,rfl⟩
 ·obtain rfl:q=l.length:=by omega
  (repeat' first|refine zcd ?_|intro K' hK|(with_reducible refine zn hK ?_;clear hK)|fail|((with_reducible first|apply zo1|apply zo2|apply o_guard rfl|apply x_cond|apply k_e1 rfl|apply k_e2 rfl|apply k_e0 rfl|apply k_e3 rfl|apply k_e4 rfl);(case he=>exact ez0);(try case hok=>exact ezO);all_goals try (intro hb;(try simp only [hbs,reduceCtorEq] at hb);try exact ezX))|((with_reducible apply o_undef rfl);(case hb=>exact ez0)))
  all_goals exact sw_flat rfl rfl ⟨⟨_,rfl,⟨fun _=>hall,fun _=>by decide⟩⟩,rfl,rfl⟩
theorem cfuncV_ev (hk:30000≤k) (g:FuncId) (cap:List Value) (A:Option Addr) (l:List V) (c:Nat) (hL:LH h n A l) (hl:l.length≤20000) (p:Nat→Bool) (B:Bool) (hB:B=false↔∀ j,j<l.length→p j=false)
  (hp:∀ j (hj:j<l.length) (cl:Nat) (cs:List Value),VH h n l[j] cs→SQ k d cl g (.agg ⟨cs⟩ :: cap) h n fun v h' n'=>v = .bool (p j)∧h=h'∧n=n') :
  SQ k (d+2) cl 89 [.slice A l.length c,.func (.func g) ⟨[]⟩ ⟨cap⟩] h n fun v h' n'=>v = .bool B∧h=h'∧n=n':=by
 have q:=ifuncV_ev k d n h n hk g cap A l c hL hl p hp
 refine enter Try.func89 kz rfl kz rfl rfl rfl ?_
 (repeat' first|refine zcd ?_|intro K' hK|(with_reducible refine zn hK ?_;clear hK)|((with_reducible apply o_callF (g:=114) w_none);(case ha=>exact ez0);(case hs=>(exact q));(case' hk=>rintro _ h' n' ⟨⟨x,rfl,hx⟩,rfl,rfl⟩))|((with_reducible first|apply zo1|apply zo2|apply o_guard rfl|apply x_cond|apply k_e1 rfl|apply k_e2 rfl|apply k_e0 rfl|apply k_e3 rfl|apply k_e4 rfl);(case he=>exact ez0);(try case hok=>exact ezO);all_goals try (intro hb;(try simp only [hbs,reduceCtorEq] at hb);try exact ezX))|((with_reducible apply o_undef rfl);(case hb=>exact ez0)))
 have e:decide (x≥0)=B:=by
  cases B with
  | false=>exact decide_eq_false (by have:=hx.2 (hB.1 rfl);omega)
  | true=>exact decide_eq_true (Classical.byContradiction fun hh=>by have:=hB.2 (hx.1 zm);cases this)
 all_goals exact sw_flat rfl rfl ⟨by rw [e],rfl,rfl⟩
def fitP (T:List Tp):Nat→Nat→V→Nat→Bool
 | 0,_,_,_=>false
 | N+1,t,.mk kd i s l c,dp=>match T[t]? with
  | none=>false
  | some x=>
   if kd≠x.kd∨c=true then false
   else if kd=1 then decide (s=[]) && (decide (l.length=0) && decide (i=0∨i=1))
   else if kd=2 then decide (s=[]) && decide (l.length=0)
   else if kd=3 then decide (i=0) && (decide (l.length=0) && decide (s.length≤64))
   else if kd=4 then decide (i=0) && (decide (s=[]) && (decide (l.length≤1) && l.all fun e=>decide (0<dp) && fitP T N x.el.toNat e (dp - 1)))
   else if kd=7 then decide (i=0) && (decide (s=[]) && (decide (l.length≤16) && l.all fun e=>decide (0<dp) && fitP T N x.el.toNat e (dp - 1)))
   else decide (i=0) && (decide (s=[]) && (decide (l.length=(prtT x).length) && ((prtT x).zip l).all fun e=>fitP T N e.1.toNat e.2 dp))
theorem fit1_ev (TA:Option Addr) (T:List Tp) (tc:Nat) (hT:TabH h n TA T) (i7 i4 i9 dp:Nat) (t:Tp) (y:Nat) (hy:t.el=(y:Int)) (r7:rowOf h i7=some (3,false,[.int .i64 dp])) (r4:rowOf h i4=some (22,false,[.slice TA T.length tc])) (r9:rowOf h i9=some (64,false,t.v))
  (h7:i7<n) (h4:i4<n) (h9:i9<n) (hdp:dp≤3) (v:V) (cs:List Value) (hv:VH h n v cs) (B:Bool)
  (ih:0<dp→∀ (cl:Nat) (h6:Hp) (n6:Nat) (cs:List Value),TabH h6 n6 TA T→VH h6 n6 v cs→SQ k d cl 51 [.slice TA T.length tc,.int .i64 (y:Int),.agg ⟨cs⟩,.int .i64 ((dp - 1:Nat):Int)] h6 n6 fun v h' n'=>v = .bool B∧h6=h'∧n6=n') :
  SQ k (d+1) cl 88 [.agg ⟨cs⟩,.pointer (some ⟨i7,0,none⟩),.pointer (some ⟨i4,0,none⟩),.pointer (some ⟨i9,0,none⟩)] h n fun v h' n'=>v = .bool (decide (0<dp) && B)∧h=h'∧n=n':=by
 obtain ⟨A1,cc1,rfl, -, -⟩:=hv.cut
 have f7:=cellAt_row (off:=0) r7
 have f4:=cellAt_row (off:=0) r4
 have f9:=cellAt_row (off:=1) r9
 obtain ⟨kd,el,ln,fs,FA,fc⟩:=t
 dsimp only at hy f9
 subst hy
 by_cases h0:0<dp
 ·have ihh:=ih h0
  have hdp1:(dp:Int) - 1=((dp - 1:Nat):Int):=by omega
  rw [decide_eq_true h0,Bool.true_and]
  refine enter Try.func88 kz rfl kz rfl rfl rfl ?_
  (repeat' first|refine zcd ?_|intro K' hK|(with_reducible refine zn hK ?_;clear hK)|((with_reducible apply o_callF (g:=51) w_none);(case ha=>exact ez0);(case hs=>((with_reducible apply ihh);(all_goals first|exact ezT hT|exact (hv.set (Nat.le_refl _) _).more zm)));(case' hk=>rintro _ h' n' ⟨rfl,rfl,rfl⟩))|((with_reducible first|apply zo1|apply zo2|apply o_guard rfl|apply x_cond|apply k_e1 rfl|apply k_e2 rfl|apply k_e0 rfl|apply k_e3 rfl|apply k_e4 rfl);(case he=>exact ez4 f7 f4 f9 hdp1);(try case hok=>exact ezO);all_goals try (intro hb;(try simp only [hbs,reduceCtorEq] at hb);try exact ezX))|((with_reducible apply o_undef rfl);(case hb=>exact ez0)))
  all_goals exact sw_flat rfl rfl ⟨rfl,rfl,rfl⟩
 ·rw [decide_eq_false h0,Bool.false_and]
  refine enter Try.func88 kz rfl kz rfl rfl rfl ?_
  (repeat' first|refine zcd ?_|intro K' hK|(with_reducible refine zn hK ?_;clear hK)|fail|((with_reducible first|apply zo1|apply zo2|apply o_guard rfl|apply x_cond|apply k_e1 rfl|apply k_e2 rfl|apply k_e0 rfl|apply k_e3 rfl|apply k_e4 rfl);(case he=>exact ez3 f7 f4 f9);(try case hok=>exact ezO);all_goals try (intro hb;(try simp only [hbs,reduceCtorEq] at hb);try exact ezX))|((with_reducible apply o_undef rfl);(case hb=>exact ez0)))
  all_goals exact sw_flat rfl rfl ⟨rfl,rfl,rfl⟩
theorem fit2_ev (i11 i7 i4 i9:Nat) (r11:rowOf h i11=some (130,false,[.func (.func 88) ⟨[]⟩ ⟨[.pointer (some ⟨i7,0,none⟩),.pointer (some ⟨i4,0,none⟩),.pointer (some ⟨i9,0,none⟩)]⟩])) (h11:i11<n) (v:V) (cs:List Value) (hv:VH h n v cs) (B:Bool)
  (ih:∀ (cl:Nat) (h6:Hp) (n6:Nat) (cs:List Value),(∀ b,b<n→h6.get b=h.get b)→n≤n6→VH h6 n6 v cs→SQ k d cl 88 [.agg ⟨cs⟩,.pointer (some ⟨i7,0,none⟩),.pointer (some ⟨i4,0,none⟩),.pointer (some ⟨i9,0,none⟩)] h6 n6 fun v h' n'=>v = .bool B∧h6=h'∧n6=n') :
  SQ k (d+1) cl 90 [.agg ⟨cs⟩,.pointer (some ⟨i11,0,none⟩)] h n fun v h' n'=>v = .bool (!B)∧h=h'∧n=n':=by
 obtain ⟨A1,cc1,rfl, -, -⟩:=hv.cut
 have f11:=cellAt_row (off:=0) r11
 refine enter Try.func90 kz rfl kz rfl rfl rfl ?_
 (repeat' first|refine zcd ?_|intro K' hK|(with_reducible refine zn hK ?_;clear hK)|((with_reducible apply o_callC w_none);(case hx=>exact ez0);(case ha=>exact ez0);(case hs=>((with_reducible apply ih);(all_goals first|omega|exact (hv.set (Nat.le_refl _) _).more zm|exact ezN)));(case' hk=>rintro _ h' n' ⟨rfl,rfl,rfl⟩))|((with_reducible first|apply zo1|apply zo2|apply o_guard rfl|apply x_cond|apply k_e1 rfl|apply k_e2 rfl|apply k_e0 rfl|apply k_e3 rfl|apply k_e4 rfl);(case he=>exact ez1 f11);(try case hok=>exact ezO);all_goals try (intro hb;(try simp only [hbs,reduceCtorEq] at hb);try exact ezX))|((with_reducible apply o_undef rfl);(case hb=>exact ez0)))
 all_goals exact sw_flat rfl rfl ⟨rfl,rfl,rfl⟩
theorem fit3_ev (i11 i7 i4 i9:Nat) (r11:rowOf h i11=some (130,false,[.func (.func 88) ⟨[]⟩ ⟨[.pointer (some ⟨i7,0,none⟩),.pointer (some ⟨i4,0,none⟩),.pointer (some ⟨i9,0,none⟩)]⟩])) (h11:i11<n) (v:V) (cs:List Value) (hv:VH h n v cs) (B:Bool)
  (ih:∀ (cl:Nat) (h6:Hp) (n6:Nat) (cs:List Value),(∀ b,b<n→h6.get b=h.get b)→n≤n6→VH h6 n6 v cs→SQ k d cl 88 [.agg ⟨cs⟩,.pointer (some ⟨i7,0,none⟩),.pointer (some ⟨i4,0,none⟩),.pointer (some ⟨i9,0,none⟩)] h6 n6 fun v h' n'=>v = .bool B∧h6=h'∧n6=n') :
  SQ k (d+1) cl 91 [.agg ⟨cs⟩,.pointer (some ⟨i11,0,none⟩)] h n fun v h' n'=>v = .bool (!B)∧h=h'∧n=n':=by
 obtain ⟨A1,cc1,rfl, -, -⟩:=hv.cut
 have f11:=cellAt_row (off:=0) r11
 refine enter Try.func91 kz rfl kz rfl rfl rfl ?_
 (repeat' first|refine zcd ?_|intro K' hK|(with_reducible refine zn hK ?_;clear hK)|((with_reducible apply o_callC w_none);(case hx=>exact ez0);(case ha=>exact ez0);(case hs=>((with_reducible apply ih);(all_goals first|omega|exact (hv.set (Nat.le_refl _) _).more zm|exact ezN)));(case' hk=>rintro _ h' n' ⟨rfl,rfl,rfl⟩))|((with_reducible first|apply zo1|apply zo2|apply o_guard rfl|apply x_cond|apply k_e1 rfl|apply k_e2 rfl|apply k_e0 rfl|apply k_e3 rfl|apply k_e4 rfl);(case he=>exact ez1 f11);(try case hok=>exact ezO);all_goals try (intro hb;(try simp only [hbs,reduceCtorEq] at hb);try exact ezX))|((with_reducible apply o_undef rfl);(case hb=>exact ez0)))
 all_goals exact sw_flat rfl rfl ⟨rfl,rfl,rfl⟩
end
end Go.Proofs.Ytcpkdjikembpnaa.Ce
namespace Go.Proofs.Ytcpkdjikembpnaa
open Go.RowKit
structure Dn where
 nx:Int
 fr:Int
 fn:Int
 has:Bool
 ag:Int
end Go.Proofs.Ytcpkdjikembpnaa
