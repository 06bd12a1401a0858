/- Parts of the proof of ValueBack: Lo, Mf. No condition of its own. -/
import Derived.Test.YtcpkdjikembpnaaWaas
set_option linter.unusedVariables false
set_option linter.unusedSimpArgs false
set_option maxRecDepth 1000000
set_option maxHeartbeats 4000000
namespace Go.Proofs.Ytcpkdjikembpnaa.Ce
section
open Go.RowKit
open Classical in
noncomputable def errO (C:Int) (T:List Tp) (fs:List (List UInt8 × Int)):Int:=
 if ChkT T then (if fs.length≤16 then (if ∀ f∈fs,0≤f.2∧f.2<T.length then (if ∀ f∈fs,((eRow C T).at_ f.2).1≤256 then 0 else 16) else 2) else 4) else 8
variable (k d cl:Nat) (h:Hp) (n:Nat)
theorem lofs_8 (hk:30000≤k) (A:Option Addr) (T:List Tp) (c:Nat) (hT:TabH h n A T) (hS:∀ t∈T,t.fs.length≤20000) (hm:T.length≤9223372036854775807) (FA:Option Addr) (fs:List (List UInt8 × Int)) (fc:Nat) (hr:RdH h n FA (fv fs)) (hl2:fs.length≤20) (hC:¬ ChkT T) :
  SQ k (d+7) cl 102 [.slice A T.length c,.slice FA fs.length fc] h n fun v h' n'=>v = .tuple ⟨[.slice none 0 0,.int .i64 0,.int .i64 0,.int .i64 (errO 1048576 T fs)]⟩∧h'=h∧n'=n:=by
 have hz:errO 1048576 T fs=8:=by unfold errO;rw [if_neg hC]
 have he:=errT_no hC
 refine enter Try.func102 kz rfl kz rfl rfl rfl ?_
 (repeat' first|refine zcd ?_|intro K' hK|(with_reducible refine zn hK ?_;clear hK)|((with_reducible apply o_callF (g:=92) w_none);(case ha=>exact ez0);(case hs=>((with_reducible apply pcheck_ev (T:=T));(case hT=>first|exact hT|exact hT.set zm _);(case hS=>exact hS);(all_goals first|exact hk|omega)));(case' hk=>rintro _ h' n' ⟨rfl,rfl,rfl⟩))|((with_reducible apply k_end rfl);(case hv=>(apply r_four <;> first|(simp (disch:=first|assumption|omega|rfl|decide) only [go_sem,seval,tys] <;> rfl)|exact rfl)))|((with_reducible first|apply zo1|apply zo2|apply o_guard rfl|apply x_cond|apply k_e1 rfl|apply k_e2 rfl|apply k_e0 rfl|apply k_e3 rfl|apply k_e4 rfl);(case he=>exact ez1 he);(try case hok=>exact ezO);all_goals try (intro hb;(try simp only [hbs,reduceCtorEq] at hb);try exact ezX))|((with_reducible apply o_undef rfl);(case hb=>exact ez0)))
 all_goals exact sw_flat rfl rfl ⟨by rw [hz],rfl,rfl⟩
theorem lofs_2 (hk:30000≤k) (A:Option Addr) (T:List Tp) (c:Nat) (hT:TabH h n A T) (hS:∀ t∈T,t.fs.length≤20000) (hm:T.length≤9223372036854775807) (FA:Option Addr) (fs:List (List UInt8 × Int)) (fc:Nat) (hr:RdH h n FA (fv fs)) (hl2:fs.length≤20) (hC:ChkT T) (h16:fs.length≤16) (hbad:¬ ∀ f∈fs,0≤f.2∧f.2<T.length) :
  SQ k (d+7) cl 102 [.slice A T.length c,.slice FA fs.length fc] h n fun v h' n'=>v = .tuple ⟨[.slice none 0 0,.int .i64 0,.int .i64 0,.int .i64 (errO 1048576 T fs)]⟩∧h'=h∧n'=n:=by
 have hz:errO 1048576 T fs=2:=by unfold errO;rw [if_pos hC,if_pos h16,if_neg hbad]
 have he:=errT_ok hC
 have hl:=hC.1
 have hEl:=eRow_length 1048576 T
 refine enter Try.func102 kz rfl kz rfl rfl rfl ?_
 (repeat' first|refine zcd ?_|intro K' hK|(with_reducible refine zn hK ?_;clear hK)|((with_reducible apply o_callF (g:=92) w_none);(case ha=>exact ez0);(case hs=>((with_reducible apply pcheck_ev (T:=T));(case hT=>first|exact hT|exact hT.set zm _);(case hS=>exact hS);(all_goals first|exact hk|omega)));(case' hk=>rintro _ h' n' ⟨rfl,rfl,rfl⟩))|((with_reducible apply o_callF (g:=93) w_none);(case ha=>exact ez0);(case hs=>((with_reducible apply extents_ev (T:=T));(case hT=>first|exact hT|exact hT.set zm _);(case hF=>exact hC.2.1);(all_goals first|exact hk|omega)));(case' hk=>rintro _ h' n' ⟨rfl,rfl,rfl⟩))|((with_reducible apply k_end rfl);(case hv=>(apply r_four <;> first|(simp (disch:=first|assumption|omega|rfl|decide) only [go_sem,seval,tys] <;> rfl)|exact rfl)))|((with_reducible first|apply zo1|apply zo2|apply o_guard rfl|apply x_cond|apply k_e1 rfl|apply k_e2 rfl|apply k_e0 rfl|apply k_e3 rfl|apply k_e4 rfl);(case he=>exact ez1 he);(try case hok=>exact ezO);all_goals try (intro hb;(try simp only [hbs,reduceCtorEq] at hb);try exact ezX))|((with_reducible apply o_undef rfl);(case hb=>exact ez0)))
 obtain ⟨h,hhh⟩:∃ x,x=h':=⟨_,rfl⟩
 subst hhh
 obtain ⟨n,hnn⟩:∃ x,x=n':=⟨_,rfl⟩
 subst hnn
 refine x_loopV [4,5,6,7,11,27,28,29,30,31,32,33,34,35,36,37,38,39,40,41] [27] (fun m vs h' n'=>∃ q:Nat,m=fs.length - q∧q≤fs.length∧vs=[.int .i64 q]∧n+1≤n'∧rowOf h' n=some (93,false,ev (eRow 1048576 T))∧RdH h' n FA (fv fs)∧(∀ f∈fs.take q,0≤f.2∧f.2<T.length)) fs.length rfl zm ?_ ?_
 ·exact ⟨0,rfl,by omega,by simp (disch:=first|assumption|omega|rfl|decide) only [go_sem,seval,tys] <;> rfl,by omega,by simp (disch:=first|assumption|omega|rfl|decide) only [go_sem,seval,tys],by exact ezD hr,by intro f hf;simp at hf⟩
 ·rintro m g _ h' n' ⟨q,rfl,hq,rfl,hn,q0,r1,hpre⟩
  by_cases hqf:q<fs.length
  ·obtain ⟨id2,off2,hFA,hid2,hf2, -, -⟩:=fld_at r1 hqf
   obtain ⟨ty,hty⟩:∃ ty,(fs[q]).2=ty:=⟨_,rfl⟩
   rw [hty] at hf2
   by_cases hin:0≤ty∧ty<(T.length:Int)
   ·(repeat' first|refine zcd ?_|intro K' hK|(with_reducible refine zn hK ?_;clear hK)|((with_reducible apply k_end rfl);(case hv=>(apply r_four <;> first|(simp (disch:=first|assumption|omega|rfl|decide) only [go_sem,seval,tys] <;> rfl)|exact rfl)))|((with_reducible first|apply zo1|apply zo2|apply o_guard rfl|apply x_cond|apply k_e1 rfl|apply k_e2 rfl|apply k_e0 rfl|apply k_e3 rfl|apply k_e4 rfl);(case he=>exact ez2 hFA hf2);(try case hok=>exact ezO);all_goals try (intro hb;(try simp only [hbs,reduceCtorEq] at hb);try exact ezX))|((with_reducible apply o_undef rfl);(case hb=>exact ez0)))
    refine k_round (fs.length - (q+1)) zm ⟨q+1,rfl,by omega,by simp (disch:=first|assumption|omega|rfl|decide) only [go_sem,seval,tys] <;> rfl,by omega,by simp (disch:=first|assumption|omega|rfl|decide) only [go_sem,seval,tys,q0],by exact ezD r1,by rw [List.take_succ_eq_append_getElem hqf];intro f hf;rcases List.mem_append.1 hf with hf|hf;exact hpre f hf;rw [List.mem_singleton.1 hf,hty];exact hin⟩
   ·(repeat' first|refine zcd ?_|intro K' hK|(with_reducible refine zn hK ?_;clear hK)|((with_reducible apply k_end rfl);(case hv=>(apply r_four <;> first|(simp (disch:=first|assumption|omega|rfl|decide) only [go_sem,seval,tys] <;> rfl)|exact rfl)))|((with_reducible first|apply zo1|apply zo2|apply o_guard rfl|apply x_cond|apply k_e1 rfl|apply k_e2 rfl|apply k_e0 rfl|apply k_e3 rfl|apply k_e4 rfl);(case he=>exact ez2 hFA hf2);(try case hok=>exact ezO);all_goals try (intro hb;(try simp only [hbs,reduceCtorEq] at hb);try exact ezX))|((with_reducible apply o_undef rfl);(case hb=>exact ez0)))
    all_goals exact sw_flat rfl rfl ⟨by rw [hz],rfl,rfl⟩
  ·obtain rfl:q=fs.length:=by omega
   rw [List.take_length] at hpre
   exact absurd hpre hbad
theorem lofs_16 (hk:30000≤k) (A:Option Addr) (T:List Tp) (c:Nat) (hT:TabH h n A T) (hS:∀ t∈T,t.fs.length≤20000) (hm:T.length≤9223372036854775807) (FA:Option Addr) (fs:List (List UInt8 × Int)) (fc:Nat) (hr:RdH h n FA (fv fs)) (hl2:fs.length≤20) (hC:ChkT T) (h16:fs.length≤16) (hall:∀ f∈fs,0≤f.2∧f.2<T.length) (hbad:¬ ∀ f∈fs,((eRow 1048576 T).at_ f.2).1≤256) :
  SQ k (d+7) cl 102 [.slice A T.length c,.slice FA fs.length fc] h n fun v h' n'=>v = .tuple ⟨[.slice none 0 0,.int .i64 0,.int .i64 0,.int .i64 (errO 1048576 T fs)]⟩∧h'=h∧n'=n:=by
 have hz:errO 1048576 T fs=16:=by unfold errO;rw [if_pos hC,if_pos h16,if_pos hall,if_neg hbad]
 have he:=errT_ok hC
 have hl:=hC.1
 have hEl:=eRow_length 1048576 T
 refine enter Try.func102 kz rfl kz rfl rfl rfl ?_
 (repeat' first|refine zcd ?_|intro K' hK|(with_reducible refine zn hK ?_;clear hK)|((with_reducible apply o_callF (g:=92) w_none);(case ha=>exact ez0);(case hs=>((with_reducible apply pcheck_ev (T:=T));(case hT=>first|exact hT|exact hT.set zm _);(case hS=>exact hS);(all_goals first|exact hk|omega)));(case' hk=>rintro _ h' n' ⟨rfl,rfl,rfl⟩))|((with_reducible apply o_callF (g:=93) w_none);(case ha=>exact ez0);(case hs=>((with_reducible apply extents_ev (T:=T));(case hT=>first|exact hT|exact hT.set zm _);(case hF=>exact hC.2.1);(all_goals first|exact hk|omega)));(case' hk=>rintro _ h' n' ⟨rfl,rfl,rfl⟩))|((with_reducible apply k_end rfl);(case hv=>(apply r_four <;> first|(simp (disch:=first|assumption|omega|rfl|decide) only [go_sem,seval,tys] <;> rfl)|exact rfl)))|((with_reducible first|apply zo1|apply zo2|apply o_guard rfl|apply x_cond|apply k_e1 rfl|apply k_e2 rfl|apply k_e0 rfl|apply k_e3 rfl|apply k_e4 rfl);(case he=>exact ez1 he);(try case hok=>exact ezO);all_goals try (intro hb;(try simp only [hbs,reduceCtorEq] at hb);try exact ezX))|((with_reducible apply o_undef rfl);(case hb=>exact ez0)))
 obtain ⟨h,hhh⟩:∃ x,x=h':=⟨_,rfl⟩
 subst hhh
 obtain ⟨n,hnn⟩:∃ x,x=n':=⟨_,rfl⟩
 subst hnn
 refine x_loopV [4,5,6,7,11,27,28,29,30,31,32,33,34,35,36,37,38,39,40,41] [27] (fun m vs h' n'=>∃ q:Nat,m=fs.length - q∧q≤fs.length∧vs=[.int .i64 q]∧n+1≤n'∧rowOf h' n=some (93,false,ev (eRow 1048576 T))∧RdH h' n FA (fv fs)∧(True)) fs.length rfl zm ?_ ?_
 ·exact ⟨0,rfl,by omega,by simp (disch:=first|assumption|omega|rfl|decide) only [go_sem,seval,tys] <;> rfl,by omega,by simp (disch:=first|assumption|omega|rfl|decide) only [go_sem,seval,tys],by exact ezD hr,trivial⟩
 ·rintro m g _ h' n' ⟨q,rfl,hq,rfl,hn,q0,r1,hpre⟩
  by_cases hqf:q<fs.length
  ·obtain ⟨id2,off2,hFA,hid2,hf2, -, -⟩:=fld_at r1 hqf
   obtain ⟨ty,hty⟩:∃ ty,(fs[q]).2=ty:=⟨_,rfl⟩
   rw [hty] at hf2
   have hin:0≤ty∧ty<(T.length:Int):=by rw [← hty];exact hall _ (List.getElem_mem hqf)
   (repeat' first|refine zcd ?_|intro K' hK|(with_reducible refine zn hK ?_;clear hK)|((with_reducible apply k_end rfl);(case hv=>(apply r_four <;> first|(simp (disch:=first|assumption|omega|rfl|decide) only [go_sem,seval,tys] <;> rfl)|exact rfl)))|((with_reducible first|apply zo1|apply zo2|apply o_guard rfl|apply x_cond|apply k_e1 rfl|apply k_e2 rfl|apply k_e0 rfl|apply k_e3 rfl|apply k_e4 rfl);(case he=>exact ez2 hFA hf2);(try case hok=>exact ezO);all_goals try (intro hb;(try simp only [hbs,reduceCtorEq] at hb);try exact ezX))|((with_reducible apply o_undef rfl);(case hb=>exact ez0)))
   refine k_round (fs.length - (q+1)) zm ⟨q+1,rfl,by omega,by simp (disch:=first|assumption|omega|rfl|decide) only [go_sem,seval,tys] <;> rfl,by omega,by simp (disch:=first|assumption|omega|rfl|decide) only [go_sem,seval,tys,q0],by exact ezD r1,trivial⟩
  ·obtain rfl:q=fs.length:=by omega
   (repeat' first|refine zcd ?_|intro K' hK|(with_reducible refine zn hK ?_;clear hK)|((with_reducible apply k_end rfl);(case hv=>(apply r_four <;> first|(simp (disch:=first|assumption|omega|rfl|decide) only [go_sem,seval,tys] <;> rfl)|exact rfl)))|((with_reducible first|apply zo1|apply zo2|apply o_guard rfl|apply x_cond|apply k_e1 rfl|apply k_e2 rfl|apply k_e0 rfl|apply k_e3 rfl|apply k_e4 rfl);(case he=>exact ez0);(try case hok=>exact ezO);all_goals try (intro hb;(try simp only [hbs,reduceCtorEq] at hb);try exact ezX))|((with_reducible apply o_undef rfl);(case hb=>exact ez0)))
   refine x_loopV [4,5,6,7,13,44,45,46,47,48,49,50,51,52,53,54,55] [44] (fun m vs h' n'=>∃ q:Nat,m=fs.length - q∧q≤fs.length∧vs=[.int .i64 q]∧n+1≤n'∧rowOf h' n=some (93,false,ev (eRow 1048576 T))∧RdH h' n FA (fv fs)∧(∀ f∈fs.take q,((eRow 1048576 T).at_ f.2).1≤256)) fs.length rfl zm ?_ ?_
   ·exact ⟨0,rfl,by omega,by simp (disch:=first|assumption|omega|rfl|decide) only [go_sem,seval,tys] <;> rfl,by omega,q0,r1,by intro f hf;simp at hf⟩
   ·clear r1 q0 hpre
    rintro m g2 _ h' n' ⟨q,rfl,hq,rfl,hn,q0,r1,hpre⟩
    have c0:=fun o=>cellAt_row (off:=o) q0
    by_cases hqf:q<fs.length
    ·obtain ⟨id2,off2,hFA,hid2,hf2, -, -⟩:=fld_at r1 hqf
     have hin:=hall _ (List.getElem_mem hqf)
     obtain ⟨ty,hty⟩:∃ ty,(fs[q]).2=ty:=⟨_,rfl⟩
     rw [hty] at hf2 hin
     obtain ⟨j,rfl⟩:=Int.eq_ofNat_of_zero_le hin.1
     have hge:=(ev_get (E:=eRow 1048576 T) (i:=j) zm).1
     by_cases hle:((eRow 1048576 T).at_ (j:Int)).1≤256
     ·(repeat' first|refine zcd ?_|intro K' hK|(with_reducible refine zn hK ?_;clear hK)|((with_reducible apply k_end rfl);(case hv=>(apply r_four <;> first|(simp (disch:=first|assumption|omega|rfl|decide) only [go_sem,seval,tys] <;> rfl)|exact rfl)))|((with_reducible first|apply zo1|apply zo2|apply o_guard rfl|apply x_cond|apply k_e1 rfl|apply k_e2 rfl|apply k_e0 rfl|apply k_e3 rfl|apply k_e4 rfl);(case he=>exact ez4 hFA hf2 c0 hge);(try case hok=>exact ezO);all_goals try (intro hb;(try simp only [hbs,reduceCtorEq] at hb);try exact ezX))|((with_reducible apply o_undef rfl);(case hb=>exact ez0)))
      refine k_round (fs.length - (q+1)) zm ⟨q+1,rfl,by omega,by simp (disch:=first|assumption|omega|rfl|decide) only [go_sem,seval,tys] <;> rfl,by omega,by simp (disch:=first|assumption|omega|rfl|decide) only [go_sem,seval,tys,q0],by exact ezD r1,by rw [List.take_succ_eq_append_getElem hqf];intro f hf;rcases List.mem_append.1 hf with hf|hf;exact hpre f hf;rw [List.mem_singleton.1 hf,hty];exact hle⟩
     ·(repeat' first|refine zcd ?_|intro K' hK|(with_reducible refine zn hK ?_;clear hK)|((with_reducible apply k_end rfl);(case hv=>(apply r_four <;> first|(simp (disch:=first|assumption|omega|rfl|decide) only [go_sem,seval,tys] <;> rfl)|exact rfl)))|((with_reducible first|apply zo1|apply zo2|apply o_guard rfl|apply x_cond|apply k_e1 rfl|apply k_e2 rfl|apply k_e0 rfl|apply k_e3 rfl|apply k_e4 rfl);(case he=>exact ez4 hFA hf2 c0 hge);(try case hok=>exact ezO);all_goals try (intro hb;(try simp only [hbs,reduceCtorEq] at hb);try exact ezX))|((with_reducible apply o_undef rfl);(case hb=>exact ez0)))
      all_goals exact sw_flat rfl rfl ⟨by rw [hz],rfl,rfl⟩
    ·obtain rfl:q=fs.length:=by omega
     rw [List.take_length] at hpre
     exact absurd hpre hbad
theorem lofs_ok (hk:30000≤k) (A:Option Addr) (T:List Tp) (c:Nat) (hT:TabH h n A T) (hS:∀ t∈T,t.fs.length≤20000) (hm:T.length≤9223372036854775807) (FA:Option Addr) (fs:List (List UInt8 × Int)) (fc:Nat) (hr:RdH h n FA (fv fs)) (hl2:fs.length≤20) (hC:ChkT T) (h16:fs.length≤16) (hall:∀ f∈fs,0≤f.2∧f.2<T.length) (hsm:∀ f∈fs,((eRow 1048576 T).at_ f.2).1≤256) :
  SQ k (d+7) cl 102 [.slice A T.length c,.slice FA fs.length fc] h n fun v h' n'=>v = .tuple ⟨[.slice (some ⟨n,0,none⟩) fs.length fs.length,.int .i64 (upI (layR 1048576 (eRow 1048576 T) fs).2.1 (layR 1048576 (eRow 1048576 T) fs).2.2),.int .i64 (layR 1048576 (eRow 1048576 T) fs).2.2,.int .i64 0]⟩ ∧
   h'=h.set n (.row 3 false (iv (layR 1048576 (eRow 1048576 T) fs).1))∧n'=n+1:=by
 have hEok:∀ p∈eRow 1048576 T,EOk 1048576 p:=by have:=eRow_ok (C:=1048576) zm (by decide) hC.2.1 T.length (Nat.le_refl _);rwa [List.take_length] at this
 have hxo:∀ f∈fs,0≤f.2∧f.2<(eRow 1048576 T).length:=fun f hf=>by rw [eRow_length];exact hall f hf
 have hfo:FOk 1048576 (eRow 1048576 T) fs:=fun f hf=>Ext.at_mem hEok (hxo f hf).1 (hxo f hf).2
 have he:=errT_ok hC
 have hl:=hC.1
 have hEl:=eRow_length 1048576 T
 refine enter Try.func102 kz rfl kz rfl rfl rfl ?_
 (repeat' first|refine zcd ?_|intro K' hK|(with_reducible refine zn hK ?_;clear hK)|((with_reducible apply o_callF (g:=92) w_none);(case ha=>exact ez0);(case hs=>((with_reducible apply pcheck_ev (T:=T));(case hT=>first|exact hT|exact hT.set zm _);(case hS=>exact hS);(all_goals first|exact hk|omega)));(case' hk=>rintro _ h' n' ⟨rfl,rfl,rfl⟩))|((with_reducible apply o_callF (g:=93) w_none);(case ha=>exact ez0);(case hs=>((with_reducible apply extents_ev (T:=T));(case hT=>first|exact hT|exact hT.set zm _);(case hF=>exact hC.2.1);(all_goals first|exact hk|omega)));(case' hk=>rintro _ h' n' ⟨rfl,rfl,rfl⟩))|((with_reducible apply k_end rfl);(case hv=>(apply r_four <;> first|(simp (disch:=first|assumption|omega|rfl|decide) only [go_sem,seval,tys] <;> rfl)|exact rfl)))|((with_reducible first|apply zo1|apply zo2|apply o_guard rfl|apply x_cond|apply k_e1 rfl|apply k_e2 rfl|apply k_e0 rfl|apply k_e3 rfl|apply k_e4 rfl);(case he=>exact ez1 he);(try case hok=>exact ezO);all_goals try (intro hb;(try simp only [hbs,reduceCtorEq] at hb);try exact ezX))|((with_reducible apply o_undef rfl);(case hb=>exact ez0)))
 obtain ⟨h,hhh⟩:∃ x,x=h':=⟨_,rfl⟩
 subst hhh
 obtain ⟨n,hnn⟩:∃ x,x=n':=⟨_,rfl⟩
 subst hnn
 refine x_loopV [4,5,6,7,11,27,28,29,30,31,32,33,34,35,36,37,38,39,40,41] [27] (fun m vs h' n'=>∃ q:Nat,m=fs.length - q∧q≤fs.length∧vs=[.int .i64 q]∧n+1≤n'∧rowOf h' n=some (93,false,ev (eRow 1048576 T))∧RdH h' n FA (fv fs)∧(True)) fs.length rfl zm ?_ ?_
 ·exact ⟨0,rfl,by omega,by simp (disch:=first|assumption|omega|rfl|decide) only [go_sem,seval,tys] <;> rfl,by omega,by simp (disch:=first|assumption|omega|rfl|decide) only [go_sem,seval,tys],by exact ezD hr,trivial⟩
 ·rintro m g _ h' n' ⟨q,rfl,hq,rfl,hn,q0,r1,hpre⟩
  by_cases hqf:q<fs.length
  ·obtain ⟨id2,off2,hFA,hid2,hf2, -, -⟩:=fld_at r1 hqf
   obtain ⟨ty,hty⟩:∃ ty,(fs[q]).2=ty:=⟨_,rfl⟩
   rw [hty] at hf2
   have hin:0≤ty∧ty<(T.length:Int):=by rw [← hty];exact hall _ (List.getElem_mem hqf)
   (repeat' first|refine zcd ?_|intro K' hK|(with_reducible refine zn hK ?_;clear hK)|((with_reducible apply k_end rfl);(case hv=>(apply r_four <;> first|(simp (disch:=first|assumption|omega|rfl|decide) only [go_sem,seval,tys] <;> rfl)|exact rfl)))|((with_reducible first|apply zo1|apply zo2|apply o_guard rfl|apply x_cond|apply k_e1 rfl|apply k_e2 rfl|apply k_e0 rfl|apply k_e3 rfl|apply k_e4 rfl);(case he=>exact ez2 hFA hf2);(try case hok=>exact ezO);all_goals try (intro hb;(try simp only [hbs,reduceCtorEq] at hb);try exact ezX))|((with_reducible apply o_undef rfl);(case hb=>exact ez0)))
   refine k_round (fs.length - (q+1)) zm ⟨q+1,rfl,by omega,by simp (disch:=first|assumption|omega|rfl|decide) only [go_sem,seval,tys] <;> rfl,by omega,by simp (disch:=first|assumption|omega|rfl|decide) only [go_sem,seval,tys,q0],by exact ezD r1,trivial⟩
  ·obtain rfl:q=fs.length:=by omega
   (repeat' first|refine zcd ?_|intro K' hK|(with_reducible refine zn hK ?_;clear hK)|((with_reducible apply k_end rfl);(case hv=>(apply r_four <;> first|(simp (disch:=first|assumption|omega|rfl|decide) only [go_sem,seval,tys] <;> rfl)|exact rfl)))|((with_reducible first|apply zo1|apply zo2|apply o_guard rfl|apply x_cond|apply k_e1 rfl|apply k_e2 rfl|apply k_e0 rfl|apply k_e3 rfl|apply k_e4 rfl);(case he=>exact ez0);(try case hok=>exact ezO);all_goals try (intro hb;(try simp only [hbs,reduceCtorEq] at hb);try exact ezX))|((with_reducible apply o_undef rfl);(case hb=>exact ez0)))
   refine x_loopV [4,5,6,7,13,44,45,46,47,48,49,50,51,52,53,54,55] [44] (fun m vs h' n'=>∃ q:Nat,m=fs.length - q∧q≤fs.length∧vs=[.int .i64 q]∧n+1≤n'∧rowOf h' n=some (93,false,ev (eRow 1048576 T))∧RdH h' n FA (fv fs)∧(True)) fs.length rfl zm ?_ ?_
   ·exact ⟨0,rfl,by omega,by simp (disch:=first|assumption|omega|rfl|decide) only [go_sem,seval,tys] <;> rfl,by omega,q0,r1,trivial⟩
   ·clear r1 q0 hpre
    rintro m g2 _ h' n' ⟨q,rfl,hq,rfl,hn,q0,r1,hpre⟩
    have c0:=fun o=>cellAt_row (off:=o) q0
    by_cases hqf:q<fs.length
    ·obtain ⟨id2,off2,hFA,hid2,hf2, -, -⟩:=fld_at r1 hqf
     have hin:=hall _ (List.getElem_mem hqf)
     obtain ⟨ty,hty⟩:∃ ty,(fs[q]).2=ty:=⟨_,rfl⟩
     rw [hty] at hf2 hin
     obtain ⟨j,rfl⟩:=Int.eq_ofNat_of_zero_le hin.1
     have hge:=(ev_get (E:=eRow 1048576 T) (i:=j) zm).1
     have hle:((eRow 1048576 T).at_ (j:Int)).1≤256:=by rw [← hty];exact hsm _ (List.getElem_mem hqf)
     (repeat' first|refine zcd ?_|intro K' hK|(with_reducible refine zn hK ?_;clear hK)|((with_reducible apply k_end rfl);(case hv=>(apply r_four <;> first|(simp (disch:=first|assumption|omega|rfl|decide) only [go_sem,seval,tys] <;> rfl)|exact rfl)))|((with_reducible first|apply zo1|apply zo2|apply o_guard rfl|apply x_cond|apply k_e1 rfl|apply k_e2 rfl|apply k_e0 rfl|apply k_e3 rfl|apply k_e4 rfl);(case he=>exact ez4 hFA hf2 c0 hge);(try case hok=>exact ezO);all_goals try (intro hb;(try simp only [hbs,reduceCtorEq] at hb);try exact ezX))|((with_reducible apply o_undef rfl);(case hb=>exact ez0)))
     refine k_round (fs.length - (q+1)) zm ⟨q+1,rfl,by omega,by simp (disch:=first|assumption|omega|rfl|decide) only [go_sem,seval,tys] <;> rfl,by omega,by simp (disch:=first|assumption|omega|rfl|decide) only [go_sem,seval,tys,q0],by exact ezD r1,trivial⟩
    ·obtain rfl:q=fs.length:=by omega
     (repeat' first|refine zcd ?_|intro K' hK|(with_reducible refine zn hK ?_;clear hK)|((with_reducible apply k_end rfl);(case hv=>(apply r_four <;> first|(simp (disch:=first|assumption|omega|rfl|decide) only [go_sem,seval,tys] <;> rfl)|exact rfl)))|((with_reducible apply o_callF (g:=117) w_none);(case ha=>exact ez0);(case hs=>(((with_reducible apply lay_ev (E:=eRow 1048576 T) (fs:=fs));(case hk=>exact hk);(case hm=>exact hEl.symm);(case hE=>exact RdH.ofRow (e:=93) (ro:=false) (by simp (disch:=first|assumption|omega|rfl|decide) only [go_sem,seval,tys,q0]) zm);(case hr=>exact r1.more zm);(case hl2=>omega);(case hf=>exact hfo);(case hx=>exact hxo))));(case' hk=>rintro _ h' n' ⟨rfl,rfl,rfl⟩))|(with_reducible refine x_drawnD (id:=20) [(2,4)] kz fun K' hK=>?_)|((with_reducible apply d_nil);(case hp=>exact ezP);(case' hx=>(refine hK _ _ _ ?_;clear hK)))|((with_reducible apply d_pure w_none);(case hp=>exact rfl);(case hc=>exact rfl);(case he=>exact ez0))|((with_reducible apply d_eff w_none);(case hc=>exact rfl);(case he=>exact ez0);(case hok=>exact ezO))|((with_reducible apply d_guard rfl);(case hb=>exact ez0);(case' h1=>intro hb;(try simp only [hbs,reduceCtorEq] at hb);try exact ezX);(case' h2=>intro hb;(try simp only [hbs,reduceCtorEq] at hb);try exact ezX))|((with_reducible first|apply zo1|apply zo2|apply o_guard rfl|apply x_cond|apply k_e1 rfl|apply k_e2 rfl|apply k_e0 rfl|apply k_e3 rfl|apply k_e4 rfl);(case he=>exact ez0);(try case hok=>exact ezO);all_goals try (intro hb;(try simp only [hbs,reduceCtorEq] at hb);try exact ezX))|((with_reducible apply o_undef rfl);(case hb=>exact ez0)))
     refine sw_row ezI rfl zm (by simp (disch:=first|assumption|omega|rfl|decide) only [go_sem,seval,tys,q0];exact rfl) (iv_idA _ _) ezR ?_
     exact ⟨rfl,rfl,rfl⟩
end
section
open Go.RowKit
def R2 (p q:Int × Int):Prop:=p.2=q.2∧Al p.2∧∃ N,0≤N∧p.1=min 1048576 N∧q.1=min 1000000 N
theorem min_mul {C l N:Int} (hl:1≤l) (hN:0≤N) (hC:0≤C):min C (l*min C N)=min C (l*N):=by
 by_cases h:N≤C
 ·rw [show min C N=N from by omega]
 ·have h1:min C N=C:=by omega
  have h2:C≤l*C:=by have:=Int.mul_le_mul_of_nonneg_right hl hC;rwa [Int.one_mul] at this
  have h3:N≤l*N:=by have:=Int.mul_le_mul_of_nonneg_right hl hN;rwa [Int.one_mul] at this
  rw [h1]
  omega
def ERel (E G:Ext):Prop:=E.length=G.length∧∀ j:Int,0≤j→j<E.length→R2 (E.at_ j) (G.at_ j)
theorem lay_rel {E G:Ext} (hr:ERel E G) {fs:List (List UInt8 × Int)} (hx:∀ f∈fs,0≤f.2∧f.2<E.length):∀ q,q≤fs.length→(layR 1048576 E (fs.take q)).2.2=(layR 1000000 G (fs.take q)).2.2∧Al (layR 1048576 E (fs.take q)).2.2∧∃ N,0≤N∧(layR 1048576 E (fs.take q)).2.1=min 1048576 N∧(layR 1000000 G (fs.take q)).2.1=min 1000000 N
 | 0,_=>⟨rfl,.inl rfl,0,Int.le_refl _,rfl,rfl⟩
 | q+1,h=>by
  obtain ⟨i1,i2,N,i3,i4,i5⟩:=lay_rel hr hx q zm
  have hf:=hx fs[q] (List.getElem_mem _)
  obtain ⟨r1,r2,Y,r3,r4,r5⟩:=hr.2 (fs[q]).2 hf.1 hf.2
  rw [layR_take 1048576 E zm,layR_take 1000000 G zm]
  unfold lStep
  dsimp only
  refine ⟨by rw [i1,r1],i2.max r2,upI N (E.at_ (fs[q]).2).2+Y,?_,?_,?_⟩
  ·have:=upI_bnd r2 i3;omega
  ·rw [i4,r4,upI_min r2 (by decide)]
   have:=upI_bnd r2 i3
   omega
  ·rw [i5,r5,← r1,upI_min r2 (by decide)]
   have:=upI_bnd r2 i3
   omega
theorem eOne_rel {E G:Ext} (hr:ERel E G) {m:Nat} {t:Tp} (h:fineB m E.length t=true):R2 (eOne 1048576 E t) (eOne 1000000 G t):=by
 have hk:=fine_kd h
 by_cases h1:t.kd=1
 ·rw [eOne_1 h1,eOne_1 h1];exact ⟨rfl,.inl rfl,1,by decide,rfl,rfl⟩
 by_cases h2:t.kd=2∨t.kd=4
 ·rw [eOne_24 h2,eOne_24 h2];exact ⟨rfl,.inr rfl,8,by decide,rfl,rfl⟩
 by_cases h3:t.kd=3
 ·rw [eOne_3 h3,eOne_3 h3];exact ⟨rfl,.inr rfl,16,by decide,rfl,rfl⟩
 by_cases h7:t.kd=7
 ·rw [eOne_7 h7,eOne_7 h7];exact ⟨rfl,.inr rfl,24,by decide,rfl,rfl⟩
 by_cases h6:t.kd=6
 ·have ha:=fine_arr h h6
  obtain ⟨r1,r2,Y,r3,r4,r5⟩:=hr.2 t.el ha.1 ha.2.1
  rw [eOne_6 h6,eOne_6 h6]
  refine ⟨r1,r2,t.ln*Y,Int.mul_nonneg zm r3,?_,?_⟩
  ·dsimp only;rw [r4,min_mul ha.2.2.1 r3 (by decide)]
  ·dsimp only;rw [r5,min_mul ha.2.2.1 r3 (by decide)]
 ·have h5:t.kd=5:=by omega
  have hx:∀ f∈t.fs,0≤f.2∧f.2<E.length:=fun f hf=>by
   obtain ⟨q,hq,rfl⟩:=List.getElem_of_mem hf
   exact fine_fld h hq
  obtain ⟨i1,i2,N,i3,i4,i5⟩:=lay_rel hr hx t.fs.length (Nat.le_refl _)
  rw [List.take_length] at i1 i2 i4 i5
  rw [eOne_5 h5,eOne_5 h5]
  refine ⟨i1,i2,upI N (layR 1048576 E t.fs).2.2,?_,?_,?_⟩
  ·have:=upI_bnd i2 i3;omega
  ·dsimp only;rw [i4,upI_min i2 (by decide)]
  ·dsimp only;rw [i5,← i1,upI_min i2 (by decide)]
theorem at_snoc_lt {E:Ext} {p:Int × Int} {j:Int} (h0:0≤j) (h1:j<E.length):Ext.at_ (E ++ [p]) j=E.at_ j:=by
 unfold Ext.at_
 rw [List.getD_eq_getElem?_getD,List.getElem?_append_left zm,List.getD_eq_getElem?_getD]
theorem at_snoc_eq {E:Ext} {p:Int × Int}:Ext.at_ (E ++ [p]) (E.length:Int)=p:=by
 unfold Ext.at_
 rw [Int.toNat_natCast,List.getD_eq_getElem?_getD,List.getElem?_append_right (Nat.le_refl _)]
 simp
theorem eRow_rel {T:List Tp} (hF:Fine T):∀ i,i≤T.length→ERel (eRow 1048576 (T.take i)) (eRow 1000000 (T.take i))
 | 0,_=>⟨by simp [eRow],fun j h0 h1=>by simp [eRow] at h1;omega⟩
 | i+1,hi=>by
  have ih:=eRow_rel hF i zm
  have hl1:=eRow_tlen 1048576 (T:=T) (i:=i) zm
  have hl2:=eRow_tlen 1000000 (T:=T) (i:=i) zm
  rw [eRow_take 1048576 zm,eRow_take 1000000 zm]
  refine ⟨by rw [List.length_append,List.length_append,hl1,hl2,List.length_singleton,List.length_singleton],fun j h0 h1=>?_⟩
  rw [List.length_append,hl1] at h1
  by_cases hj:j<(i:Int)
  ·rw [at_snoc_lt h0 zm,at_snoc_lt h0 zm]
   exact ih.2 j h0 zm
  ·have e:j=(i:Int):=by simp at h1;omega
   have e1:j=((eRow 1048576 (T.take i)).length:Int):=by omega
   have e2:j=((eRow 1000000 (T.take i)).length:Int):=by omega
   have r:=eOne_rel ih (m:=T.length) (t:=T[i]) (by rw [hl1];exact hF i zm)
   conv=>arg 1;rw [e1,at_snoc_eq]
   conv=>arg 2;rw [e2,at_snoc_eq]
   exact r
theorem ext_rel {T:List Tp} (hF:Fine T):ERel (eRow 1048576 T) (eRow 1000000 T):=by have:=eRow_rel hF T.length (Nat.le_refl _);rwa [List.take_length] at this
theorem R2.big {p q:Int × Int} (h:R2 p q):(256<p.1↔256<q.1)∧(p.1≤256→p=q):=by
 obtain ⟨h1, -,N,h2,h3,h4⟩:=h
 refine ⟨by omega,fun h5=>Prod.ext zm h1⟩
theorem szR_eq (T:List Tp) (i:Int):szR 1048576 T i=szR 1000000 T i:=by
 unfold szR
 by_cases hC:ChkT T
 ·rw [if_pos hC,if_pos hC]
  by_cases hi:0≤i∧i<T.length
  ·rw [if_pos hi,if_pos hi]
   have hr:=((ext_rel hC.2.1).2 i hi.1 (by rw [eRow_length];exact hi.2)).big
   by_cases hb:256<((eRow 1048576 T).at_ i).1
   ·rw [if_pos hb,if_pos (hr.1.1 hb)]
   ·rw [if_neg hb,if_neg (fun h=>hb (hr.1.2 h)),hr.2 zm]
  ·rw [if_neg hi,if_neg hi]
 ·rw [if_neg hC,if_neg hC]
theorem lay_same {E G:Ext} {fs:List (List UInt8 × Int)} (he:∀ f∈fs,E.at_ f.2=G.at_ f.2) (ho:∀ f∈fs,0≤(E.at_ f.2).1∧(E.at_ f.2).1≤256∧Al (E.at_ f.2).2) (hl:fs.length≤16):∀ q,q≤fs.length→layR 1048576 E (fs.take q)=layR 1000000 G (fs.take q)∧0≤(layR 1048576 E (fs.take q)).2.1∧(layR 1048576 E (fs.take q)).2.1≤263*q
 | 0,_=>⟨rfl,Int.le_refl _,by simp [layR]⟩
 | q+1,h=>by
  obtain ⟨i1,i2,i3⟩:=lay_same he ho hl q zm
  have hf:=he fs[q] (List.getElem_mem _)
  obtain ⟨o1,o2,o3⟩:=ho fs[q] (List.getElem_mem _)
  have hb:=upI_bnd o3 i2
  rw [layR_take 1048576 E zm,layR_take 1000000 G zm,← i1]
  unfold lStep
  rw [← hf]
  dsimp only
  refine ⟨?_,by omega,by omega⟩
  rw [show min 1048576 (upI (layR 1048576 E (fs.take q)).2.1 (E.at_ (fs[q]).2).2+(E.at_ (fs[q]).2).1)=upI (layR 1048576 E (fs.take q)).2.1 (E.at_ (fs[q]).2).2+(E.at_ (fs[q]).2).1 from by omega,
   show min 1000000 (upI (layR 1048576 E (fs.take q)).2.1 (E.at_ (fs[q]).2).2+(E.at_ (fs[q]).2).1)=upI (layR 1048576 E (fs.take q)).2.1 (E.at_ (fs[q]).2).2+(E.at_ (fs[q]).2).1 from by omega]
end
end Go.Proofs.Ytcpkdjikembpnaa.Ce
