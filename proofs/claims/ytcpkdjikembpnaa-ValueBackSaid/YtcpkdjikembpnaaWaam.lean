/- Parts of the proof of ValueBack: Pe, Ph, Pn, Gc. No condition of its own. -/
import Derived.Test.YtcpkdjikembpnaaWaah
import Derived.Test.YtcpkdjikembpnaaWaai
import Derived.Test.YtcpkdjikembpnaaWaaj
set_option linter.unusedVariables false
set_option linter.unusedSimpArgs false
set_option maxRecDepth 1000000
set_option maxHeartbeats 4000000
namespace Go.Proofs.Ytcpkdjikembpnaa.Ce
section
open Go.RowKit
variable (k d cl:Nat) (h:Hp) (n:Nat)
theorem size_ev (i:Int) (h0:0≤i) (h1:i≤4096) :
  SQ k (d+1) cl 94 [.int .i64 i] h n fun v h' n'=>v = .int .i64 (sizeI i)∧h'=h∧n'=n:=by
 refine enter Try.func94 kz rfl kz rfl rfl rfl ?_
 (repeat' first|refine zcd ?_|intro K' hK|(with_reducible refine zn hK ?_;clear hK)|fail|((with_reducible first|apply zo1|apply zo2|apply o_guard rfl|apply x_cond|apply k_e1 rfl|apply k_e2 rfl|apply k_e0 rfl|apply k_e3 rfl|apply k_e4 rfl);(case he=>exact ez0);(try case hok=>exact ezO);all_goals try (intro hb;(try simp only [hbs,reduceCtorEq] at hb);try exact ezX))|((with_reducible apply o_undef rfl);(case hb=>exact ez0)))
 exact sw_flat rfl rfl ⟨by congr 1;unfold sizeI;omega,rfl,rfl⟩
theorem bcheck_ev (b:Int) (A:Option Addr) (m c:Nat) (lim:Int) (hm:m≤9223372036854775807) :
  SQ k (d+1) cl 81 [.agg ⟨[.int .u64 b,.slice A m c]⟩,.int .i64 lim] h n fun v h' n'=>v = .int .i64 (chkB b m lim)∧h'=h∧n'=n:=by
 refine enter Try.func81 kz rfl kz rfl rfl rfl ?_
 (repeat' first|refine zcd ?_|intro K' hK|(with_reducible refine zn hK ?_;clear hK)|fail|((with_reducible first|apply zo1|apply zo2|apply o_guard rfl|apply x_cond|apply k_e1 rfl|apply k_e2 rfl|apply k_e0 rfl|apply k_e3 rfl|apply k_e4 rfl);(case he=>exact ez0);(try case hok=>exact ezO);all_goals try (intro hb;(try simp only [hbs,reduceCtorEq] at hb);try exact ezX))|((with_reducible apply o_undef rfl);(case hb=>exact ez0)))
 all_goals exact sw_flat rfl rfl ⟨by congr 1;unfold chkB;grind,rfl,rfl⟩
theorem room_ev (b:Int) (A:Option Addr) (m c:Nat) (lim:Int) (hm:m≤9223372036854775807) :
  SQ k (d+2) cl 47 [.agg ⟨[.int .u64 b,.slice A m c]⟩,.int .i64 lim] h n fun v h' n'=>v = .tuple ⟨[.int .i64 (roomS b m lim).1,.int .i64 (roomS b m lim).2]⟩∧h'=h∧n'=n:=by
 refine enter Try.func47 kz rfl kz rfl rfl rfl ?_
 by_cases hc:chkB b m lim=0
 ·obtain ⟨e1,e2,e3,e4,e5⟩:=chkB_ok hc
  (repeat' first|refine zcd ?_|intro K' hK|(with_reducible refine zn hK ?_;clear hK)|((with_reducible apply o_callF (g:=81) w_none);(case ha=>exact ez0);(case hs=>exact bcheck_ev (hm:=hm) ..);(case' hk=>rintro _ h' n' ⟨rfl,rfl,rfl⟩))|((with_reducible first|apply zo1|apply zo2|apply o_guard rfl|apply x_cond|apply k_e1 rfl|apply k_e2 rfl|apply k_e0 rfl|apply k_e3 rfl|apply k_e4 rfl);(case he=>exact ez0);(try case hok=>exact ezO);all_goals try (intro hb;(try simp only [hbs,reduceCtorEq] at hb);try exact ezX))|((with_reducible apply o_undef rfl);(case hb=>exact ez0)))
  have hq:(0≤lim - m∧(lim - m).tdiv 8=(lim - m) / 8)∨(lim - m<0∧(lim - m).tdiv 8 = -((m - lim) / 8)):=by
   rcases Int.lt_or_le (lim - m) 0 with h1|h1
   ·refine .inr ⟨h1,?_⟩
    rw [show lim - (m:Int) = -(m - lim) from by omega,Int.neg_tdiv,Int.tdiv_eq_ediv_of_nonneg zm]
   ·exact .inl ⟨h1,Int.tdiv_eq_ediv_of_nonneg h1⟩
  generalize (lim - (m:Int)).tdiv 8=q at hq ⊢
  have w1:IntKind.i64.wrap q=q:=wrap_i64 zm zm
  have w2:IntKind.i64.wrap (q*8)=q*8:=wrap_i64 zm zm
  rw [w1,w2]
  exact sw_flat rfl rfl ⟨by unfold roomS;rw [if_pos hc];congr 4;omega,rfl,rfl⟩
 ·(repeat' first|refine zcd ?_|intro K' hK|(with_reducible refine zn hK ?_;clear hK)|((with_reducible apply o_callF (g:=81) w_none);(case ha=>exact ez0);(case hs=>exact bcheck_ev (hm:=hm) ..);(case' hk=>rintro _ h' n' ⟨rfl,rfl,rfl⟩))|((with_reducible first|apply zo1|apply zo2|apply o_guard rfl|apply x_cond|apply k_e1 rfl|apply k_e2 rfl|apply k_e0 rfl|apply k_e3 rfl|apply k_e4 rfl);(case he=>exact ez0);(try case hok=>exact ezO);all_goals try (intro hb;(try simp only [hbs,reduceCtorEq] at hb);try exact ezX))|((with_reducible apply o_undef rfl);(case hb=>exact ez0)))
  all_goals exact sw_flat rfl rfl ⟨by unfold roomS;rw [if_neg hc],rfl,rfl⟩
theorem great_ev (b:Int) (A:Option Addr) (m c:Nat) :
  SQ k (d+1) cl 16 [.agg ⟨[.int .u64 b,.slice A m c]⟩] h n fun v h' n'=>v = .bool (greatB m)∧h'=h∧n'=n:=by
 refine enter Try.func16 kz rfl kz rfl rfl rfl ?_
 (repeat' first|refine zcd ?_|intro K' hK|(with_reducible refine zn hK ?_;clear hK)|fail|((with_reducible first|apply zo1|apply zo2|apply o_guard rfl|apply x_cond|apply k_e1 rfl|apply k_e2 rfl|apply k_e0 rfl|apply k_e3 rfl|apply k_e4 rfl);(case he=>exact ez0);(try case hok=>exact ezO);all_goals try (intro hb;(try simp only [hbs,reduceCtorEq] at hb);try exact ezX))|((with_reducible apply o_undef rfl);(case hb=>exact ez0)))
 all_goals exact sw_flat rfl rfl ⟨by congr 1;unfold greatB;rw [Bool.eq_iff_iff];simp;omega,rfl,rfl⟩
theorem twin_ev (b:Int) (A:Option Addr) (xs:List UInt8) (c:Nat) (hr:RdH h n A (bv xs)) (hA:A=none→c=0) (hm:xs.length≤1000000) :
  SQ k (d+1) cl 18 [.agg ⟨[.int .u64 b,.slice A xs.length c]⟩] h n fun v h' n'=>v = .agg ⟨[.int .u64 b,.slice (some ⟨n,0,none⟩) xs.length xs.length]⟩∧h'=h.set n (.row 5 false (bv xs))∧n'=n+1:=by
 refine enter Try.func18 kz rfl kz rfl rfl rfl ?_
 have hs1:∀ x y z,SrcIs 1 (((h.set n x).set (n+1) y).set (n+1+1) z) (.slice A xs.length c) xs.length (bv xs):=fun x y z=>src_rd (((hr.set (Nat.le_refl n) x).set (Nat.le_succ n) y).set zm z) hA (by rw [bv_length];omega) (by decide)
 (repeat' first|refine zcd ?_|intro K' hK|(with_reducible refine zn hK ?_;clear hK)|((with_reducible apply d_apR (t:=27) apT27 w_none);(case hs=>exact ez0);(case hy=>exact ez0);(case hsrc=>exact hs1 _ _ _);(case hr=>exact ez0);(case hc=>exact bv_cok xs);(case hm=>omega);(case hli=>omega);(case hln=>omega);(case hcs=>simp);(case' hx=>intro rd))|(with_reducible refine x_drawnD (id:=1) [(1,4),(1,5)] kz fun K' hK=>?_)|((with_reducible apply d_nil);(case hp=>exact ezP);(case' hx=>(refine hK _ _ _ ?_;clear hK)))|((with_reducible apply d_pure w_none);(case hp=>exact rfl);(case hc=>exact rfl);(case he=>exact ez0))|((with_reducible apply d_eff w_none);(case hc=>exact rfl);(case he=>exact ez0);(case hok=>exact ezO))|((with_reducible apply d_guard rfl);(case hb=>exact ez0);(case' h1=>intro hb;(try simp only [hbs,reduceCtorEq] at hb);try exact ezX);(case' h2=>intro hb;(try simp only [hbs,reduceCtorEq] at hb);try exact ezX))|((with_reducible first|apply zo1|apply zo2|apply o_guard rfl|apply x_cond|apply k_e1 rfl|apply k_e2 rfl|apply k_e0 rfl|apply k_e3 rfl|apply k_e4 rfl);(case he=>exact ez0);(try case hok=>exact ezO);all_goals try (intro hb;(try simp only [hbs,reduceCtorEq] at hb);try exact ezX))|((with_reducible apply o_undef rfl);(case hb=>exact ez0)))
 (refine sw_row ezI rfl zm (by first|assumption|(simp (disch:=first|assumption|omega|rfl|decide) only [go_sem,Nat.reduceBEq,↓reduceIte,Nat.reduceEqDiff,Nat.reduceAdd,Nat.reduceMul,Int.reduceToNat,Int.reduceAdd,Int.reduceMul,Int.reduceSub,tys] <;> rfl)) (by exact bv_idA _ _) ezR ?_;exact ⟨by simp,rfl,rfl⟩)
end
section
open Go.RowKit
variable (k d cl:Nat) (h:Hp) (n:Nat)
theorem ris_ev (b:Int) (A:Option Addr) (m c:Nat) (hm:m≤9223372036854775807) :
  SQ k (d+1) cl 29 [.agg ⟨[.int .u64 b,.slice A m c]⟩] h n fun v h' n'=>v = .bool (isB b m)∧h'=h∧n'=n:=by
 refine enter Try.func29 kz rfl kz rfl rfl rfl ?_
 (repeat' first|refine zcd ?_|intro K' hK|(with_reducible refine zn hK ?_;clear hK)|fail|((with_reducible first|apply zo1|apply zo2|apply o_guard rfl|apply x_cond|apply k_e1 rfl|apply k_e2 rfl|apply k_e0 rfl|apply k_e3 rfl|apply k_e4 rfl);(case he=>exact ez0);(try case hok=>exact ezO);all_goals try (intro hb;(try simp only [hbs,reduceCtorEq] at hb);try exact ezX))|((with_reducible apply o_undef rfl);(case hb=>exact ez0)))
 all_goals exact sw_flat rfl rfl ⟨by congr 1;unfold isB;rw [Bool.eq_iff_iff];simp;omega,rfl,rfl⟩
theorem rlimit_ev (b:Int) (A:Option Addr) (m c:Nat) (lim:Int) (hm:m≤9223372036854775807) :
  SQ k (d+2) cl 26 [.agg ⟨[.int .u64 b,.slice A m c]⟩,.int .i64 lim] h n fun v h' n'=>v = .int .i64 (chkB b m lim)∧h'=h∧n'=n:=by
 refine enter Try.func26 kz rfl kz rfl rfl rfl ?_
 (repeat' first|refine zcd ?_|intro K' hK|(with_reducible refine zn hK ?_;clear hK)|((with_reducible apply o_callF (g:=29) w_none);(case ha=>exact ez0);(case hs=>exact ris_ev (hm:=hm) ..);(case' hk=>rintro _ h' n' ⟨rfl,rfl,rfl⟩))|((with_reducible first|apply zo1|apply zo2|apply o_guard rfl|apply x_cond|apply k_e1 rfl|apply k_e2 rfl|apply k_e0 rfl|apply k_e3 rfl|apply k_e4 rfl);(case he=>exact ez0);(try case hok=>exact ezO);all_goals try (intro hb;(try simp only [hbs,reduceCtorEq] at hb);try exact ezX))|((with_reducible apply o_undef rfl);(case hb=>exact ez0)))
 all_goals exact sw_flat rfl rfl ⟨by congr 1;unfold isB at *;unfold chkB;grind,rfl,rfl⟩
theorem rsize_ev (hk:30000≤k) (i:Int) (h0:0≤i) (h1:i≤4096) :
  SQ k (d+1) cl 132 [.int .i64 i] h n fun v h' n'=>v = .int .i64 (sizeI i)∧h'=h∧n'=n:=by
 refine enter Try.func132 kz rfl kz rfl rfl rfl ?_
 (repeat' first|refine zcd ?_|intro K' hK|(with_reducible refine zn hK ?_;clear hK)|fail|((with_reducible first|apply zo1|apply zo2|apply o_guard rfl|apply x_cond|apply k_e1 rfl|apply k_e2 rfl|apply k_e0 rfl|apply k_e3 rfl|apply k_e4 rfl);(case he=>exact ez0);(try case hok=>exact ezO);all_goals try (intro hb;(try simp only [hbs,reduceCtorEq] at hb);try exact ezX))|((with_reducible apply o_undef rfl);(case hb=>exact ez0)))
 refine x_loopF [3,4,5,6,7,8,9] [3] (fun m vs=>∃ w:Nat,vs=[.int .i64 w]∧1≤w∧m+w=600∧(w=1∨8*((w:Int) - 1)<i)) 599 rfl zm ⟨1,by simp (disch:=first|assumption|omega|rfl|decide) only [go_sem,Nat.reduceBEq,↓reduceIte,Nat.reduceEqDiff,Nat.reduceAdd,Nat.reduceMul,Int.reduceToNat,Int.reduceAdd,Int.reduceMul,Int.reduceSub,tys];rfl,by omega,by omega,.inl rfl⟩ ?_
 rintro m g _ ⟨w,rfl,i1,i2,i3⟩
 by_cases hlt:8*(w:Int)<i
 ·(repeat' first|refine zcd ?_|intro K' hK|(with_reducible refine zn hK ?_;clear hK)|fail|((with_reducible first|apply zo1|apply zo2|apply o_guard rfl|apply x_cond|apply k_e1 rfl|apply k_e2 rfl|apply k_e0 rfl|apply k_e3 rfl|apply k_e4 rfl);(case he=>exact ez0);(try case hok=>exact ezO);all_goals try (intro hb;(try simp only [hbs,reduceCtorEq] at hb);try exact ezX))|((with_reducible apply o_undef rfl);(case hb=>exact ez0)))
  refine k_round (m - 1) zm ⟨⟨rfl,rfl⟩,w+1,?_,by omega,by omega,.inr zm⟩
  simp (disch:=first|assumption|omega|rfl|decide) only [go_sem,Nat.reduceBEq,↓reduceIte,Nat.reduceEqDiff,Nat.reduceAdd,Nat.reduceMul,Int.reduceToNat,Int.reduceAdd,Int.reduceMul,Int.reduceSub,tys];rfl
 ·(repeat' first|refine zcd ?_|intro K' hK|(with_reducible refine zn hK ?_;clear hK)|fail|((with_reducible first|apply zo1|apply zo2|apply o_guard rfl|apply x_cond|apply k_e1 rfl|apply k_e2 rfl|apply k_e0 rfl|apply k_e3 rfl|apply k_e4 rfl);(case he=>exact ez0);(try case hok=>exact ezO);all_goals try (intro hb;(try simp only [hbs,reduceCtorEq] at hb);try exact ezX))|((with_reducible apply o_undef rfl);(case hb=>exact ez0)))
  exact sw_flat rfl rfl ⟨by congr 1;unfold sizeI;omega,rfl,rfl⟩
end
section
open Go.RowKit
variable (k d cl:Nat) (h:Hp) (n:Nat)
end
section
open Go.RowKit
theorem bv_append (xs ys:List UInt8):bv (xs ++ ys)=bv xs ++ bv ys:=by simp [bv]
variable (k d cl:Nat) (h:Hp) (n:Nat)
theorem rgrown_ev (hk:30000≤k) (b:Int) (A:Option Addr) (xs:List UInt8) (c:Nat) (i:Int) (hr:RdH h n A (bv xs)) (hA:A=none→c=0) (hm:xs.length≤17000) (h0:0≤i) (h1:i≤4096) :
  SQ k (d+2) cl 126 [.agg ⟨[.int .u64 b,.slice A xs.length c]⟩,.int .i64 i] h n fun v h' n'=>v = .tuple ⟨[.agg ⟨[.int .u64 b,.slice (some ⟨n,0,none⟩) (grown xs i).length (grown xs i).length]⟩,.int .u64 (65536+xs.length)]⟩∧h'=h.set n (.row 5 false (bv (grown xs i)))∧n'=n+1:=by
 have q1:∀ x y,RdH ((h.set n x).set (n+1) y) (n+1+1) A (bv xs):=fun x y=>((hr.set (Nat.le_refl n) x).set (Nat.le_succ n) y).more zm
 have hs:=sizeI_ge i
 have hs2:=sizeI_le h1
 refine enter Try.func126 kz rfl kz rfl rfl rfl ?_
 (repeat' first|refine zcd ?_|intro K' hK|(with_reducible refine zn hK ?_;clear hK)|((with_reducible apply o_callF (g:=18) w_none);(case ha=>exact ez0);(case hs=>exact twin_ev (hr:=q1 _ _) (hA:=hA) (hm:=by omega) ..);(case' hk=>rintro _ h' n' ⟨rfl,rfl,rfl⟩))|((with_reducible first|apply zo1|apply zo2|apply o_guard rfl|apply x_cond|apply k_e1 rfl|apply k_e2 rfl|apply k_e0 rfl|apply k_e3 rfl|apply k_e4 rfl);(case he=>exact ez0);(try case hok=>exact ezO);all_goals try (intro hb;(try simp only [hbs,reduceCtorEq] at hb);try exact ezX))|((with_reducible apply o_undef rfl);(case hb=>exact ez0)))
 refine x_loopV [7,10,11,12,13,14,15,16,17,18,19,20] [7] (fun m vs h' n'=>∃ (j id:Nat),m+j=(sizeI i).toNat∧vs=[.int .i64 j]∧n+1<id∧id≠n+3∧id<n'∧n+3<n' ∧
  rowOf h' n=some (29,false,[.int .u64 b,.slice A xs.length c])∧rowOf h' (n+1)=some (29,false,[.int .u64 0,.slice none 0 0]) ∧
  rowOf h' (n+3)=some (29,false,[.int .u64 b,.slice (some ⟨id,0,none⟩) (xs.length+j) (xs.length+j)])∧rowOf h' id=some (5,false,bv (xs ++ List.replicate j 0))) (sizeI i).toNat rfl zm ⟨0,n+2,by omega,?_,by omega,by omega,by omega,by omega,?_,?_,?_,?_⟩ ?_
 ·simp (disch:=first|assumption|omega|rfl|decide) only [go_sem,Nat.reduceBEq,↓reduceIte,Nat.reduceEqDiff,Nat.reduceAdd,Nat.reduceMul,Int.reduceToNat,Int.reduceAdd,Int.reduceMul,Int.reduceSub,tys];rfl
 ·simp (disch:=first|assumption|omega|rfl|decide) only [go_sem,Nat.reduceBEq,↓reduceIte,Nat.reduceEqDiff,Nat.reduceAdd,Nat.reduceMul,Int.reduceToNat,Int.reduceAdd,Int.reduceMul,Int.reduceSub,tys]
 ·simp (disch:=first|assumption|omega|rfl|decide) only [go_sem,Nat.reduceBEq,↓reduceIte,Nat.reduceEqDiff,Nat.reduceAdd,Nat.reduceMul,Int.reduceToNat,Int.reduceAdd,Int.reduceMul,Int.reduceSub,tys]
 ·simp (disch:=first|assumption|omega|rfl|decide) only [go_sem,Nat.reduceBEq,↓reduceIte,Nat.reduceEqDiff,Nat.reduceAdd,Nat.reduceMul,Int.reduceToNat,Int.reduceAdd,Int.reduceMul,Int.reduceSub,tys]
 ·simp (disch:=first|assumption|omega|rfl|decide) only [go_sem,Nat.reduceBEq,↓reduceIte,Nat.reduceEqDiff,Nat.reduceAdd,Nat.reduceMul,Int.reduceToNat,Int.reduceAdd,Int.reduceMul,Int.reduceSub,tys];simp
 ·rintro m g _ h' n' ⟨j,id,i1,rfl,i2,i3,i4,i5,r0,r1,r2,r3⟩
  have c0:=fun o=>cellAt_row (off:=o) r0
  have c2:=fun o=>cellAt_row (off:=o) r2
  have d2:=fun o q=>cellsAt_row (off:=o) (k:=q) r2
  have w1:=rwOf_row r1
  have w2:=rwOf_row r2
  have w3:=rwOf_row r3
  have hlen:(bv (xs ++ List.replicate j 0)).length=xs.length+j:=by rw [bv_length];simp
  by_cases hlt:(j:Int)<sizeI i
  ·(repeat' first|refine zcd ?_|intro K' hK|(with_reducible refine zn hK ?_;clear hK)|((with_reducible apply o_callF (g:=132) w_none);(case ha=>exact ez0);(case hs=>exact rsize_ev (hk:=hk) (h0:=h0) (h1:=h1) ..);(case' hk=>rintro _ h' n' ⟨rfl,rfl,rfl⟩))|((with_reducible apply o_apR (t:=27) apT27 w_none);(case hs=>exact ez1 w3);(case hy=>exact ez1 w3);(case hsrc=>exact src_row (rowOf_same _ _ _ _ _) rfl);(case hr=>exact ez1 w3);(case hc=>exact rfl);(case hm=>omega);(case hli=>omega);(case hln=>omega);(case hcs=>rw [hlen];omega))|((with_reducible first|apply zo1|apply zo2|apply o_guard rfl|apply x_cond|apply k_e1 rfl|apply k_e2 rfl|apply k_e0 rfl|apply k_e3 rfl|apply k_e4 rfl);(case he=>exact ez6 c0 c2 d2 w1 w2 w3);(try case hok=>exact ezO);all_goals try (intro hb;(try simp only [hbs,reduceCtorEq] at hb);try exact ezX))|((with_reducible apply o_undef rfl);(case hb=>exact ez0)))
   refine k_round (m - 1) zm ⟨j+1,n'+1,by omega,?_,by omega,by omega,by omega,by omega,?_,?_,?_,?_⟩
   ·simp (disch:=first|assumption|omega|rfl|decide) only [go_sem,Nat.reduceBEq,↓reduceIte,Nat.reduceEqDiff,Nat.reduceAdd,Nat.reduceMul,Int.reduceToNat,Int.reduceAdd,Int.reduceMul,Int.reduceSub,tys];rfl
   ·simp (disch:=first|assumption|omega|rfl|decide) only [go_sem,Nat.reduceBEq,↓reduceIte,Nat.reduceEqDiff,Nat.reduceAdd,Nat.reduceMul,Int.reduceToNat,Int.reduceAdd,Int.reduceMul,Int.reduceSub,tys,r0]
   ·simp (disch:=first|assumption|omega|rfl|decide) only [go_sem,Nat.reduceBEq,↓reduceIte,Nat.reduceEqDiff,Nat.reduceAdd,Nat.reduceMul,Int.reduceToNat,Int.reduceAdd,Int.reduceMul,Int.reduceSub,tys,r1]
   ·simp (disch:=first|assumption|omega|rfl|decide) only [go_sem,Nat.reduceBEq,↓reduceIte,Nat.reduceEqDiff,Nat.reduceAdd,Nat.reduceMul,Int.reduceToNat,Int.reduceAdd,Int.reduceMul,Int.reduceSub,tys,r2];rfl
   ·simp (disch:=first|assumption|omega|rfl|decide) only [go_sem,Nat.reduceBEq,↓reduceIte,Nat.reduceEqDiff,Nat.reduceAdd,Nat.reduceMul,Int.reduceToNat,Int.reduceAdd,Int.reduceMul,Int.reduceSub,tys,Nat.mul_one]
    rw [List.take_of_length_le zm,List.replicate_succ',← List.append_assoc,bv_append (xs ++ List.replicate j 0) [0]]
    rfl
  ·obtain rfl:(sizeI i).toNat=j:=by omega
   (repeat' first|refine zcd ?_|intro K' hK|(with_reducible refine zn hK ?_;clear hK)|((with_reducible apply o_callF (g:=132) w_none);(case ha=>exact ez0);(case hs=>exact rsize_ev (hk:=hk) (h0:=h0) (h1:=h1) ..);(case' hk=>rintro _ h' n' ⟨rfl,rfl,rfl⟩))|(with_reducible refine x_drawnD (id:=6) [(0,2),(0,4),(2,6),(4,6)] kz fun K' hK=>?_)|((with_reducible apply d_nil);(case hp=>exact ezP);(case' hx=>(refine hK _ _ _ ?_;clear hK)))|((with_reducible apply d_pure w_none);(case hp=>exact rfl);(case hc=>exact rfl);(case he=>exact ez6 c0 c2 d2 w1 w2 w3))|((with_reducible apply d_eff w_none);(case hc=>exact rfl);(case he=>exact ez6 c0 c2 d2 w1 w2 w3);(case hok=>exact ezO))|((with_reducible apply d_guard rfl);(case hb=>exact ez6 c0 c2 d2 w1 w2 w3);(case' h1=>intro hb;(try simp only [hbs,reduceCtorEq] at hb);try exact ezX);(case' h2=>intro hb;(try simp only [hbs,reduceCtorEq] at hb);try exact ezX))|((with_reducible first|apply zo1|apply zo2|apply o_guard rfl|apply x_cond|apply k_e1 rfl|apply k_e2 rfl|apply k_e0 rfl|apply k_e3 rfl|apply k_e4 rfl);(case he=>exact ez6 c0 c2 d2 w1 w2 w3);(try case hok=>exact ezO);all_goals try (intro hb;(try simp only [hbs,reduceCtorEq] at hb);try exact ezX))|((with_reducible apply o_undef rfl);(case hb=>exact ez0)))
   have hgl:(grown xs i).length=xs.length+(sizeI i).toNat:=by unfold grown;simp
   (refine sw_row ezI rfl zm (ez1 r3) (by exact bv_idA _ _) ezR ?_;exact ⟨by rw [hgl],rfl,rfl⟩)
end
section
open Go.RowKit
theorem res_bv (xs:List UInt8) (j:Nat):(bv xs).take (xs.length.min j) ++ (List.replicate j [Value.int IntKind.u8 0]).flatten.drop (xs.length.min j)=bv (resized xs j):=by
 have e:(List.replicate j [Value.int IntKind.u8 0]).flatten=List.replicate j (.int .u8 0):=by
  induction j with
  | zero=>rfl
  | succ j ih=>rw [List.replicate_succ,List.flatten_cons,ih];rfl
 have hm:xs.length.min j=min xs.length j:=rfl
 rw [e,hm]
 unfold resized bv
 rw [List.map_append,List.map_replicate,List.drop_replicate,List.map_take]
 rcases Nat.le_total xs.length j with h1|h1
 ·rw [Nat.min_eq_left h1,List.take_of_length_le (by simp),List.take_of_length_le (by simpa using h1)];rfl
 ·rw [Nat.min_eq_right h1,Nat.sub_self,Nat.sub_eq_zero_of_le h1];rfl
theorem resized_grown (xs:List UInt8) (i:Int):resized xs ((xs.length:Int)+sizeI i).toNat=grown xs i:=by
 have:=sizeI_ge i
 unfold resized grown
 rw [List.take_of_length_le zm,show ((xs.length:Int)+sizeI i).toNat - xs.length=(sizeI i).toNat from by omega]
variable (k d cl:Nat) (h:Hp) (n:Nat)
theorem resize_ok (b:Int) (A:Option Addr) (xs:List UInt8) (c:Nat) (i:Int) (hr:RdH h n A (bv xs)) (hA:A=none→c=0) (h0:0≤b) (h1:b<18446744073709551616) (hc:chkR b xs.length=0) (hi0:0≤i) (hi1:i≤20000) :
  SQ k (d+3) cl 95 [.agg ⟨[.int .u64 b,.slice A xs.length c]⟩,.int .i64 i] h n fun v h' n'=>v = .tuple ⟨[.agg ⟨[.int .u64 b,.slice (some ⟨n,0,none⟩) i.toNat i.toNat]⟩,.int .i64 0]⟩∧h'=h.set n (.row 5 false (bv (resized xs i.toNat)))∧n'=n+1:=by
 obtain ⟨g2,g3,g4,g5⟩:=chkR_ok hc
 have q1:∀ x y z,SrcIs 1 (((h.set n x).set (n+1) y).set (n+1+1) z) (.slice A xs.length c) xs.length (bv xs):=fun x y z=>src_rd (((hr.set (Nat.le_refl n) x).set (Nat.le_succ n) y).set zm z) hA (by rw [bv_length];omega) (by decide)
 have hbl:(List.replicate i.toNat [Value.int IntKind.u8 0]).flatten.length=i.toNat:=by simp
 refine enter Try.func95 kz rfl kz rfl rfl rfl ?_
 (repeat' first|refine zcd ?_|intro K' hK|(with_reducible refine zn hK ?_;clear hK)|((with_reducible apply o_callF (g:=62) w_none);(case ha=>exact ez0);(case hs=>exact check_ev (h0:=h0) (h1:=h1) (hm:=by omega) ..);(case' hk=>rintro _ h' n' ⟨rfl,rfl,rfl⟩))|((with_reducible apply o_cp cpT27 w_none);(case hd=>exact ez0);(case hy=>exact ez0);(case hsrc=>exact q1 _ _ _);(case hr=>exact ez0);(case hcl=>rw [bv_length]);(case hc=>exact bv_cok xs);(case hl=>omega);(case ho=>(first|(simp;done)|(simp;omega)|omega|(simp only [bv_length];omega))))|((with_reducible first|apply zo1|apply zo2|apply o_guard rfl|apply x_cond|apply k_e1 rfl|apply k_e2 rfl|apply k_e0 rfl|apply k_e3 rfl|apply k_e4 rfl);(case he=>exact ez0);(try case hok=>exact ezO);all_goals try (intro hb;(try simp only [hbs,reduceCtorEq] at hb);try exact ezX))|((with_reducible apply o_undef rfl);(case hb=>exact ez0)))
 (refine sw_row ezI rfl zm (by first|assumption|(simp (disch:=first|assumption|omega|rfl|decide) only [go_sem,Nat.reduceBEq,↓reduceIte,Nat.reduceEqDiff,Nat.reduceAdd,Nat.reduceMul,Int.reduceToNat,Int.reduceAdd,Int.reduceMul,Int.reduceSub,tys] <;> rfl)) (by rw [res_bv];exact bv_idA _ _) ezR ?_;exact ⟨rfl,by rw [res_bv],rfl⟩)
theorem alloc_ok (b:Int) (A:Option Addr) (xs:List UInt8) (c:Nat) (i lim:Int) (hr:RdH h n A (bv xs)) (hA:A=none→c=0) (he:allocE b xs.length i lim=0) :
  SQ k (d+4) cl 55 [.agg ⟨[.int .u64 b,.slice A xs.length c]⟩,.int .i64 i,.int .i64 lim] h n fun v h' n'=>v = .tuple ⟨[.agg ⟨[.int .u64 b,.slice (some ⟨n,0,none⟩) (grown xs i).length (grown xs i).length]⟩,.int .u64 (b+xs.length),.int .i64 0]⟩∧h'=h.set n (.row 5 false (bv (grown xs i)))∧n'=n+1:=by
 have hs:=sizeI_ge i
 have hc:chkB b xs.length lim=0∧0≤i∧i≤4096∧xs.length+sizeI i≤lim:=by unfold allocE at he;grind
 obtain ⟨hc,i0,i1,i2⟩:=hc
 obtain ⟨rfl,g2,g3,g4,g5⟩:=chkB_ok hc
 have hR:chkR 65536 xs.length=0:=chkB_R g3
 have hrm:(roomS 65536 xs.length lim).1=max 0 ((lim - xs.length) / 8*8)∧(roomS 65536 xs.length lim).2=0:=by unfold roomS;rw [if_pos hc];exact ⟨rfl,rfl⟩
 have hlt:=room_lt (n:=i) (lim:=lim) g2
 have hgl:(grown xs i).length=((xs.length:Int)+sizeI i).toNat:=by unfold grown;simp;omega
 have q1:∀ x y,RdH ((h.set n x).set (n+1) y) (n+1+1) A (bv xs):=fun x y=>((hr.set (Nat.le_refl n) x).set (Nat.le_succ n) y).more zm
 refine enter Try.func55 kz rfl kz rfl rfl rfl ?_
 (repeat' first|refine zcd ?_|intro K' hK|(with_reducible refine zn hK ?_;clear hK)|((with_reducible apply o_callF (g:=47) w_none);(case ha=>exact ez0);(case hs=>exact room_ev (hm:=by omega) ..);(case' hk=>rintro _ h' n' ⟨rfl,rfl,rfl⟩))|((with_reducible apply o_callF (g:=94) w_none);(case ha=>exact ez0);(case hs=>exact size_ev (h0:=i0) (h1:=i1) ..);(case' hk=>rintro _ h' n' ⟨rfl,rfl,rfl⟩))|((with_reducible apply d_callN (g:=94) w_none);(case hs0=>exact rfl);(case ha=>exact ez0);(case hs=>exact size_ev (h0:=i0) (h1:=i1) ..);(case' hk=>rintro _ h' n' ⟨rfl,rfl,rfl⟩))|((with_reducible apply d_callS (g:=95) w_none);(case hs0=>exact rfl);(case ha=>exact ez0);(case hs=>exact resize_ok (hr:=q1 _ _) (hA:=hA) (h0:=by omega) (h1:=by omega) (hc:=hR) (hi0:=by omega) (hi1:=by omega) ..);(case' hk=>rintro _ h' n' ⟨rfl,rfl,rfl⟩))|(with_reducible refine x_drawnD (id:=8) [(0,2),(0,5),(2,5)] kz fun K' hK=>?_)|(with_reducible refine x_drawnD (id:=9) [(0,2),(0,4),(2,4),(0,6),(2,6),(2,9),(4,9),(6,9)] kz fun K' hK=>?_)|((with_reducible apply d_nil);(case hp=>exact ezP);(case' hx=>(refine hK _ _ _ ?_;clear hK)))|((with_reducible apply d_pure w_none);(case hp=>exact rfl);(case hc=>exact rfl);(case he=>exact ez0))|((with_reducible apply d_eff w_none);(case hc=>exact rfl);(case he=>exact ez0);(case hok=>exact ezO))|((with_reducible apply d_guard rfl);(case hb=>exact ez0);(case' h1=>intro hb;(try simp only [hbs,reduceCtorEq] at hb);try exact ezX);(case' h2=>intro hb;(try simp only [hbs,reduceCtorEq] at hb);try exact ezX))|((with_reducible first|apply zo1|apply zo2|apply o_guard rfl|apply x_cond|apply k_e1 rfl|apply k_e2 rfl|apply k_e0 rfl|apply k_e3 rfl|apply k_e4 rfl);(case he=>exact ez0);(try case hok=>exact ezO);all_goals try (intro hb;(try simp only [hbs,reduceCtorEq] at hb);try exact ezX))|((with_reducible apply o_undef rfl);(case hb=>exact ez0)))
 refine sw_row (by simp (disch:=first|assumption|omega) only [idV_tuple,idV_agg,idV_int,idV_bool,idV_str,idV_slice,idV_nil,idV1_agg,idV1_int,idV1_bool,idV1_str,idV1_slice,idV1_nil,idA_int,idA_bool,idA_str,idA_slice,idA_nil,idA_old,idV_old,idV1_old,ble_t,ble_f,cond_true,cond_false,List.flatMap_cons,List.flatMap_nil,List.append_nil,List.nil_append,List.cons_append];exact rfl) rfl zm (by simp (disch:=first|assumption|omega|rfl|decide) only [go_sem,Nat.reduceBEq,↓reduceIte,Nat.reduceEqDiff,Nat.reduceAdd,Nat.reduceMul,Int.reduceToNat,Int.reduceAdd,Int.reduceMul,Int.reduceSub,tys];exact rfl) (by rw [resized_grown];exact bv_idA _ _) (by simp only [reV_tuple,reV_agg,reV_slice,reV1_agg,reV1_int,reV1_bool,reV1_str,reV1_slice,reV1_snil,reA_int,reA_bool,reA_str,reA_slice,reA_snil,reN_hit,List.map_cons,List.map_nil];exact rfl) ?_
 exact ⟨by rw [hgl],by rw [resized_grown],rfl⟩
theorem alloc_err (b:Int) (A:Option Addr) (m c:Nat) (i lim:Int) (hm:m≤9223372036854775807) (he:allocE b m i lim≠0) :
  SQ k (d+4) cl 55 [.agg ⟨[.int .u64 b,.slice A m c]⟩,.int .i64 i,.int .i64 lim] h n fun v h' n'=>v = .tuple ⟨[.agg ⟨[.int .u64 0,.slice none 0 0]⟩,.int .u64 0,.int .i64 (allocE b m i lim)]⟩∧h'=h∧n'=n:=by
 have hs:=sizeI_ge i
 refine enter Try.func55 kz rfl kz rfl rfl rfl ?_
 by_cases hc:chkB b m lim=0
 ·obtain ⟨e1,g2,g3,g4,g5⟩:=chkB_ok hc
  have hrm:(roomS b m lim).1=max 0 ((lim - m) / 8*8)∧(roomS b m lim).2=0:=by unfold roomS;rw [if_pos hc];exact ⟨rfl,rfl⟩
  have hlt:=room_lt (n:=i) (lim:=lim) g2
  by_cases hi:0≤i∧i≤4096
  ·have hf:lim<m+sizeI i∧allocE b m i lim=18:=by unfold allocE at *;grind
   (repeat' first|refine zcd ?_|intro K' hK|(with_reducible refine zn hK ?_;clear hK)|((with_reducible apply o_callF (g:=47) w_none);(case ha=>exact ez0);(case hs=>exact room_ev (hm:=by omega) ..);(case' hk=>rintro _ h' n' ⟨rfl,rfl,rfl⟩))|((with_reducible apply o_callF (g:=94) w_none);(case ha=>exact ez0);(case hs=>exact size_ev (h0:=hi.1) (h1:=hi.2) ..);(case' hk=>rintro _ h' n' ⟨rfl,rfl,rfl⟩))|((with_reducible first|apply zo1|apply zo2|apply o_guard rfl|apply x_cond|apply k_e1 rfl|apply k_e2 rfl|apply k_e0 rfl|apply k_e3 rfl|apply k_e4 rfl);(case he=>exact ez0);(try case hok=>exact ezO);all_goals try (intro hb;(try simp only [hbs,reduceCtorEq] at hb);try exact ezX))|((with_reducible apply o_undef rfl);(case hb=>exact ez0)))
   all_goals exact sw_flat rfl rfl ⟨by rw [hf.2],rfl,rfl⟩
  ·have hf:allocE b m i lim=2:=by unfold allocE;grind
   (repeat' first|refine zcd ?_|intro K' hK|(with_reducible refine zn hK ?_;clear hK)|((with_reducible apply o_callF (g:=47) w_none);(case ha=>exact ez0);(case hs=>exact room_ev (hm:=by omega) ..);(case' hk=>rintro _ h' n' ⟨rfl,rfl,rfl⟩))|((with_reducible first|apply zo1|apply zo2|apply o_guard rfl|apply x_cond|apply k_e1 rfl|apply k_e2 rfl|apply k_e0 rfl|apply k_e3 rfl|apply k_e4 rfl);(case he=>exact ez0);(try case hok=>exact ezO);all_goals try (intro hb;(try simp only [hbs,reduceCtorEq] at hb);try exact ezX))|((with_reducible apply o_undef rfl);(case hb=>exact ez0)))
   all_goals exact sw_flat rfl rfl ⟨by rw [hf],rfl,rfl⟩
 ·have hrm:(roomS b m lim).2=chkB b m lim:=by unfold roomS;rw [if_neg hc]
  have hf:allocE b m i lim=chkB b m lim:=by unfold allocE;rw [if_neg hc]
  (repeat' first|refine zcd ?_|intro K' hK|(with_reducible refine zn hK ?_;clear hK)|((with_reducible apply o_callF (g:=47) w_none);(case ha=>exact ez0);(case hs=>exact room_ev (hm:=by omega) ..);(case' hk=>rintro _ h' n' ⟨rfl,rfl,rfl⟩))|((with_reducible first|apply zo1|apply zo2|apply o_guard rfl|apply x_cond|apply k_e1 rfl|apply k_e2 rfl|apply k_e0 rfl|apply k_e3 rfl|apply k_e4 rfl);(case he=>exact ez0);(try case hok=>exact ezO);all_goals try (intro hb;(try simp only [hbs,reduceCtorEq] at hb);try exact ezX))|((with_reducible apply o_undef rfl);(case hb=>exact ez0)))
  all_goals exact sw_flat rfl rfl ⟨by rw [hf,hrm],rfl,rfl⟩
end
section
open Go.RowKit
end
section
open Go.RowKit
variable (k d cl:Nat) (h:Hp) (n:Nat)
theorem rbase_ev (a:Int) (h0:0≤a) (h1:a<18446744073709551616) :
  SQ k (d+1) cl 103 [.int .u64 a] h n fun v h' n'=>v = .bool (basedB a)∧h'=h∧n'=n:=by
 refine enter Try.func103 kz rfl kz rfl rfl rfl ?_
 (repeat' first|refine zcd ?_|intro K' hK|(with_reducible refine zn hK ?_;clear hK)|fail|((with_reducible first|apply zo1|apply zo2|apply o_guard rfl|apply x_cond|apply k_e1 rfl|apply k_e2 rfl|apply k_e0 rfl|apply k_e3 rfl|apply k_e4 rfl);(case he=>exact ez0);(try case hok=>exact ezO);all_goals try (intro hb;(try simp only [hbs,reduceCtorEq] at hb);try exact ezX))|((with_reducible apply o_undef rfl);(case hb=>exact ez0)))
 all_goals exact sw_flat rfl rfl ⟨by unfold basedB;congr 1;grind,rfl,rfl⟩
theorem overlap_ev (b1:Int) (A1:Option Addr) (m1 c1:Nat) (b2:Int) (A2:Option Addr) (m2 c2:Nat) (h1:chkR b1 m1=0) (h2:chkR b2 m2=0) :
  SQ k (d+1) cl 63 [.agg ⟨[.int .u64 b1,.slice A1 m1 c1]⟩,.agg ⟨[.int .u64 b2,.slice A2 m2 c2]⟩] h n fun v h' n'=>v = .bool (decide (b1<b2+m2∧b2<b1+m1))∧h'=h∧n'=n:=by
 obtain ⟨x2,x3,x4,x5⟩:=chkR_ok h1
 obtain ⟨y2,y3,y4,y5⟩:=chkR_ok h2
 refine enter Try.func63 kz rfl kz rfl rfl rfl ?_
 (repeat' first|refine zcd ?_|intro K' hK|(with_reducible refine zn hK ?_;clear hK)|fail|((with_reducible first|apply zo1|apply zo2|apply o_guard rfl|apply x_cond|apply k_e1 rfl|apply k_e2 rfl|apply k_e0 rfl|apply k_e3 rfl|apply k_e4 rfl);(case he=>exact ez0);(try case hok=>exact ezO);all_goals try (intro hb;(try simp only [hbs,reduceCtorEq] at hb);try exact ezX))|((with_reducible apply o_undef rfl);(case hb=>exact ez0)))
 all_goals exact sw_flat rfl rfl ⟨by congr 1;grind,rfl,rfl⟩
end
section
open Go.RowKit
structure Rg where
 b:Int
 xs:List UInt8
 A:Option Addr
 c:Nat
abbrev gcell (g:Rg):List Value:=[.int .u64 g.b,.slice g.A g.xs.length g.c]
theorem gcell_length (g:Rg):(gcell g).length=2:=rfl
def gv (L:List Rg):List Value:=L.flatMap gcell
structure RgH (h:Hp) (B:Nat) (A:Option Addr) (L:List Rg):Prop where
 rd:RdH h B A (gv L)
 fd:∀ g∈L,RdH h B g.A (bv g.xs)
 nl:∀ g∈L,g.A=none→g.c=0
 bd:∀ g∈L,0≤g.b∧g.b<18446744073709551616
 ln:∀ g∈L,g.xs.length≤9223372036854775807
variable {h:Hp} {B:Nat} {A:Option Addr} {L:List Rg}
theorem RgH.set (hr:RgH h B A L) {id:Nat} (hB:B≤id) (x:AObj):RgH (h.set id x) B A L:=⟨hr.rd.set hB x,fun g hg=>(hr.fd g hg).set hB x,hr.nl,hr.bd,hr.ln⟩
theorem RgH.more (hr:RgH h B A L) {B':Nat} (hB:B≤B'):RgH h B' A L:=⟨hr.rd.more hB,fun g hg=>(hr.fd g hg).more hB,hr.nl,hr.bd,hr.ln⟩
theorem RgH.at_ (hr:RgH h B A L) {i:Nat} (hi:i<L.length):∃ id off,A=some ⟨id,off,none⟩∧id<B∧cellsAt h id (off+i*2) 2=some (gcell L[i]):=by
 obtain ⟨id,off,e,hid,h1,h2⟩:=RdH.rows gcell_length zm hr.rd zm
 exact ⟨id,off,e,hid,h1 i hi⟩
def chkG (g:Rg):Int:=chkR g.b g.xs.length
def ovl (x y:Rg):Prop:=0<x.xs.length∧0<y.xs.length∧x.b<y.b+y.xs.length∧y.b<x.b+x.xs.length
instance (x y:Rg):Decidable (ovl x y):=by unfold ovl;infer_instance
def fstI (L:List Rg) (a w:Int) (i:Nat):Option Nat:=match L with
 | []=>none
 | g :: L=>if inb g.b g.xs.length a w=true then some i else fstI L a w (i+1)
theorem fstI_some {a w:Int} {j:Nat}:∀ {L:List Rg} {i:Nat},fstI L a w i=some j→∃ q,∃ hq:q<L.length,j=i+q∧inb L[q].b L[q].xs.length a w=true∧∀ p (hp:p<q),inb (L[p]'zm).b (L[p]'zm).xs.length a w=false
 | [],i,hh=>by cases hh
 | g :: L,i,hh=>by
  unfold fstI at hh
  split at hh
  ·rename_i h1
   injection hh with hh
   exact ⟨0,by simp,by omega,h1,fun p hp=>absurd hp (Nat.not_lt_zero _)⟩
  ·rename_i h1
   obtain ⟨q,hq,e,h2,h3⟩:=fstI_some hh
   refine ⟨q+1,by simp;omega,by omega,by simpa using h2,fun p hp=>?_⟩
   cases p with
   | zero=>simpa using h1
   | succ p=>simpa using h3 p zm
theorem fstI_none {a w:Int}:∀ {L:List Rg} {i:Nat},(∀ q (hq:q<L.length),inb L[q].b L[q].xs.length a w=false)→fstI L a w i=none
 | [],_,_=>rfl
 | g :: L,i,hh=>by
  unfold fstI
  rw [if_neg (by have:=hh 0 (by simp);simpa using this)]
  exact fstI_none fun q hq=>hh (q+1) (by simp;omega)
theorem fstI_at {a w:Int}:∀ {L:List Rg} {i q:Nat} (hq:q<L.length),inb L[q].b L[q].xs.length a w=true→(∀ p (hp:p<q),inb (L[p]'zm).b (L[p]'zm).xs.length a w=false)→fstI L a w i=some (i+q)
 | [],_,_,hq,_,_=>absurd hq (Nat.not_lt_zero _)
 | g :: L,i,0,_,h1,_=>by unfold fstI;rw [if_pos (by simpa using h1)];rfl
 | g :: L,i,q+1,hq,h1,h2=>by
  unfold fstI
  rw [if_neg (by have:=h2 0 zm;simpa using this),fstI_at (i:=i+1) (q:=q) (by simpa using hq) (by simpa using h1) fun p hp=>by simpa using h2 (p+1) zm]
  congr 1
  omega
open Classical in
noncomputable def lstE (L:List Rg):Int:=if 17<L.length then 4 else if ¬ ∀ g∈L,chkG g=0 then 8 else if ∃ i j,∃ (hi:i<L.length) (hj:j<i),ovl L[i] (L[j]'zm) then 14 else 0
noncomputable def findS (L:List Rg) (a w:Int):Int × Int:=if lstE L≠0 then (0,lstE L) else if w<1 then (0,2) else match fstI L a w 0 with
 | some i=>((i:Int),0)
 | none=>(0,6)
variable (k d cl:Nat) (h:Hp) (n:Nat)
theorem findc_ev (g:Rg) (h0:0≤g.b) (h1:g.b<18446744073709551616) (hm:g.xs.length≤9223372036854775807) :
  SQ k (d+3) cl 61 [.agg ⟨gcell g⟩] h n fun v h' n'=>v = .bool (decide (chkG g≠0))∧h=h'∧n=n':=by
 rcases chkR_cases g.b g.xs.length with hc|hc
 ·have e:decide (chkG g≠0)=false:=by unfold chkG;rw [hc];rfl
  rw [e]
  refine enter Try.func61 kz rfl kz rfl rfl rfl ?_
  (repeat' first|refine zcd ?_|intro K' hK|(with_reducible refine zn hK ?_;clear hK)|((with_reducible apply o_callF (g:=62) w_none);(case ha=>exact ez0);(case hs=>exact check_ev _ _ _ _ _ _ _ _ _ h0 h1 hm);(case' hk=>rintro _ h' n' ⟨rfl,rfl,rfl⟩))|((with_reducible first|apply zo1|apply zo2|apply o_guard rfl|apply x_cond|apply k_e1 rfl|apply k_e2 rfl|apply k_e0 rfl|apply k_e3 rfl|apply k_e4 rfl);(case he=>exact ez1 hc);(try case hok=>exact ezO);all_goals try (intro hb;(try simp only [hbs,reduceCtorEq] at hb);try exact ezX))|((with_reducible apply o_undef rfl);(case hb=>exact ez0)))
  all_goals exact sw_flat rfl rfl ⟨rfl,rfl,rfl⟩
 ·have e:decide (chkG g≠0)=true:=by unfold chkG;rw [hc];rfl
  rw [e]
  refine enter Try.func61 kz rfl kz rfl rfl rfl ?_
  (repeat' first|refine zcd ?_|intro K' hK|(with_reducible refine zn hK ?_;clear hK)|((with_reducible apply o_callF (g:=62) w_none);(case ha=>exact ez0);(case hs=>exact check_ev _ _ _ _ _ _ _ _ _ h0 h1 hm);(case' hk=>rintro _ h' n' ⟨rfl,rfl,rfl⟩))|((with_reducible first|apply zo1|apply zo2|apply o_guard rfl|apply x_cond|apply k_e1 rfl|apply k_e2 rfl|apply k_e0 rfl|apply k_e3 rfl|apply k_e4 rfl);(case he=>exact ez1 hc);(try case hok=>exact ezO);all_goals try (intro hb;(try simp only [hbs,reduceCtorEq] at hb);try exact ezX))|((with_reducible apply o_undef rfl);(case hb=>exact ez0)))
  all_goals exact sw_flat rfl rfl ⟨rfl,rfl,rfl⟩
theorem ifuncL_ev (hk:30000≤k) (A:Option Addr) (L:List Rg) (c:Nat) (hL:RgH h n A L) (hl:L.length≤100) :
  SQ k (d+4) cl 99 [.slice A L.length c,.func (.func 61) ⟨[]⟩ ⟨[]⟩] h n fun v h' n'=>(∃ x:Int,v = .int .i64 x∧(x<0↔∀ g∈L,chkG g=0))∧h=h'∧n=n':=by
 refine enter Try.func99 kz rfl kz rfl rfl rfl ?_
 (repeat' first|refine zcd ?_|intro K' hK|(with_reducible refine zn hK ?_;clear hK)|fail|((with_reducible first|apply zo1|apply zo2|apply o_guard rfl|apply x_cond|apply k_e1 rfl|apply k_e2 rfl|apply k_e0 rfl|apply k_e3 rfl|apply k_e4 rfl);(case he=>exact ez0);(try case hok=>exact ezO);all_goals try (intro hb;(try simp only [hbs,reduceCtorEq] at hb);try exact ezX))|((with_reducible apply o_undef rfl);(case hb=>exact ez0)))
 refine x_loopV [4,5,8,9,10,11,12,13,14,15,16,17,18] [8] (fun m vs h5 n5=>∃ q:Nat,m=L.length - q∧q≤L.length∧vs=[.int .i64 q]∧n≤n5∧RgH h5 n A L∧∀ x (hx:x<q) (hL:x<L.length),chkG L[x]=0) L.length rfl zm ⟨0,rfl,by omega,ez0,Nat.le_refl _,hL,fun x hx=>absurd hx (Nat.not_lt_zero _)⟩ ?_
 rintro m g _ h5 n5 ⟨q,rfl,hq,rfl,hn5,hL5,hall⟩
 by_cases hql:q<L.length
 ·obtain ⟨id,off,rfl,hid,c1⟩:=hL5.at_ hql
  have hb:=hL5.bd _ (List.getElem_mem hql)
  have hm:=hL5.ln _ (List.getElem_mem hql)
  obtain ⟨x,hx⟩:∃ x,L[q]=x:=⟨_,rfl⟩
  rw [hx] at c1 hb hm
  have hf:=fun (h6:Hp) (n6:Nat)=>findc_ev k d n h6 n6 x hb.1 hb.2 hm
  by_cases hc:chkG x=0
  ·have e:decide (chkG x≠0)=false:=by rw [hc];rfl
   simp only [e] at hf
   (repeat' first|refine zcd ?_|intro K' hK|(with_reducible refine zn hK ?_;clear hK)|((with_reducible apply o_callV (g:=61) w_none);(case hx=>exact ez0);(case ha=>exact ez0);(case hs=>(exact hf _ _));(case' hk=>rintro _ h' n' ⟨rfl,rfl,rfl⟩))|((with_reducible first|apply zo1|apply zo2|apply o_guard rfl|apply x_cond|apply k_e1 rfl|apply k_e2 rfl|apply k_e0 rfl|apply k_e3 rfl|apply k_e4 rfl);(case he=>exact ez1 c1);(try case hok=>exact ezO);all_goals try (intro hb;(try simp only [hbs,reduceCtorEq] at hb);try exact ezX))|((with_reducible apply o_undef rfl);(case hb=>exact ez0)))
   refine k_round (L.length - (q+1)) zm ⟨q+1,rfl,by omega,ez0,by omega,(ezG hL5),fun y hy hyl=>?_⟩
   by_cases e2:y=q
   ·subst e2;rw [hx];exact hc
   ·exact hall y zm hyl
  ·have e:decide (chkG x≠0)=true:=by simpa using hc
   simp only [e] at hf
   (repeat' first|refine zcd ?_|intro K' hK|(with_reducible refine zn hK ?_;clear hK)|((with_reducible apply o_callV (g:=61) w_none);(case hx=>exact ez0);(case ha=>exact ez0);(case hs=>(exact hf _ _));(case' hk=>rintro _ h' n' ⟨rfl,rfl,rfl⟩))|((with_reducible first|apply zo1|apply zo2|apply o_guard rfl|apply x_cond|apply k_e1 rfl|apply k_e2 rfl|apply k_e0 rfl|apply k_e3 rfl|apply k_e4 rfl);(case he=>exact ez1 c1);(try case hok=>exact ezO);all_goals try (intro hb;(try simp only [hbs,reduceCtorEq] at hb);try exact ezX))|((with_reducible apply o_undef rfl);(case hb=>exact ez0)))
   all_goals exact sw_flat rfl rfl ⟨⟨_,rfl,⟨fun hh=>absurd hh zm,fun hh=>absurd (hh x (by rw [← hx];exact List.getElem_mem hql)) hc⟩⟩,rfl,rfl⟩
 ·obtain rfl:q=L.length:=by omega
  (repeat' first|refine zcd ?_|intro K' hK|(with_reducible refine zn hK ?_;clear hK)|fail|((with_reducible first|apply zo1|apply zo2|apply o_guard rfl|apply x_cond|apply k_e1 rfl|apply k_e2 rfl|apply k_e0 rfl|apply k_e3 rfl|apply k_e4 rfl);(case he=>exact ez0);(try case hok=>exact ezO);all_goals try (intro hb;(try simp only [hbs,reduceCtorEq] at hb);try exact ezX))|((with_reducible apply o_undef rfl);(case hb=>exact ez0)))
  all_goals exact sw_flat rfl rfl ⟨⟨_,rfl,⟨fun _ g hg=>by obtain ⟨i,hi,e⟩:=List.getElem_of_mem hg;rw [← e];exact hall i hi hi,fun _=>by decide⟩⟩,rfl,rfl⟩
theorem cfuncL_ev (hk:30000≤k) (A:Option Addr) (L:List Rg) (c:Nat) (hL:RgH h n A L) (hl:L.length≤100) :
  SQ k (d+5) cl 60 [.slice A L.length c,.func (.func 61) ⟨[]⟩ ⟨[]⟩] h n fun v h' n'=>(∃ b,v = .bool b∧(b=false↔∀ g∈L,chkG g=0))∧h=h'∧n=n':=by
 have q:=ifuncL_ev k d n h n hk A L c hL hl
 refine enter Try.func60 kz rfl kz rfl rfl rfl ?_
 (repeat' first|refine zcd ?_|intro K' hK|(with_reducible refine zn hK ?_;clear hK)|((with_reducible apply o_callF (g:=99) w_none);(case ha=>exact ez0);(case hs=>(exact q));(case' hk=>rintro _ h' n' ⟨⟨x,rfl,hx⟩,rfl,rfl⟩))|((with_reducible first|apply zo1|apply zo2|apply o_guard rfl|apply x_cond|apply k_e1 rfl|apply k_e2 rfl|apply k_e0 rfl|apply k_e3 rfl|apply k_e4 rfl);(case he=>exact ez0);(try case hok=>exact ezO);all_goals try (intro hb;(try simp only [hbs,reduceCtorEq] at hb);try exact ezX))|((with_reducible apply o_undef rfl);(case hb=>exact ez0)))
 all_goals exact sw_flat rfl rfl ⟨⟨_,rfl,by rw [← hx];simp⟩,rfl,rfl⟩
end
end Go.Proofs.Ytcpkdjikembpnaa.Ce
