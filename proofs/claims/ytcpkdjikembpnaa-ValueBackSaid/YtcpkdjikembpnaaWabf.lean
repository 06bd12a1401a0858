/- Parts of the proof of ValueBack: Ik. No condition of its own. -/
import Derived.Test.YtcpkdjikembpnaaWaam
import Derived.Test.YtcpkdjikembpnaaWabd
import Derived.Test.YtcpkdjikembpnaaWabe
set_option linter.unusedVariables false
set_option linter.unusedSimpArgs false
set_option maxRecDepth 1000000
set_option maxHeartbeats 4000000
namespace Go.Proofs.Ytcpkdjikembpnaa.Ce
open Go.RowKit
noncomputable def storeR (T:List Tp) (lim:Int) (N:Nat) (b:Int) (hs:List UInt8) (t:Int) (v:V):Except Int (List UInt8 × List UInt8):=
 if okE T t≠0 then .error (okE T t) else if chkB b hs.length lim≠0 then .error (chkB b hs.length lim) else if fitP T N t.toNat v 3=true then storeP T lim N hs t.toNat v else .error 30
def StN (r:Except Int (List UInt8 × List UInt8)) (h:Hp) (n:Nat) (v:Value) (h':Hp) (n':Nat):Prop:=match r with
 | .error e=>v = .tuple ⟨[.agg ⟨[.int .u64 0,.slice none 0 0]⟩,.slice none 0 0,.int .i64 e]⟩∧e≠0∧h=h'∧n=n'
 | .ok r=>StV (.ok r) none h n v h' n'
theorem sw_sno2 {h h':Hp} {n n':Nat} {e:Int} (he:e≠0):kSweep h n (StN (.error e) h n) (.tuple ⟨[.agg ⟨[.int .u64 0,.slice none 0 0]⟩,.slice none 0 0,.int .i64 e]⟩) h' n':=
 sw_flat rfl rfl ⟨rfl,he,rfl,rfl⟩
theorem roomS_2 {b:Int} {m:Nat} {lim:Int}:(roomS b m lim).2=chkB b m lim:=by
 unfold roomS
 split
 ·rename_i e;rw [e]
 ·rfl
variable (k d cl:Nat) (h:Hp) (n:Nat)
theorem clone_nil:SQ k (d+1) cl 48 [.slice none 0 0] h n fun v h' n'=>v = .slice none 0 0∧h=h'∧n=n':=by
 refine enter Try.func48 kz rfl kz rfl rfl rfl ?_
 (repeat' first|refine zcd ?_|intro K' hK|(with_reducible refine zn hK ?_;clear hK)|((with_reducible apply o_apR (t:=27) apT27 w_none);(case hs=>exact ez0);(case hy=>exact ez0);(case hsrc=>exact src_nil);(case hr=>exact ez0);(case hc=>rfl);(case hm=>omega);(case hli=>omega);(case hln=>omega);(case hcs=>simp))|((with_reducible first|apply zo1|apply zo2|apply o_guard rfl|apply x_cond|apply k_e1 rfl|apply k_e2 rfl|apply k_e0 rfl|apply k_e3 rfl|apply k_e4 rfl);(case he=>exact ez0);(try case hok=>exact ezO);all_goals try (intro hb;(try simp only [hbs,reduceCtorEq] at hb);try exact ezX))|((with_reducible apply o_undef rfl);(case hb=>exact ez0)))
 all_goals exact sw_flat rfl rfl ⟨rfl,rfl,rfl⟩
theorem clone_any (a:Addr) (xs:List UInt8) (c:Nat) (hr:RdH h n (some a) (bv xs)) (hm:xs.length≤1000000) :
  SQ k (d+1) cl 48 [.slice (some a) xs.length c] h n fun v h' n'=>v = .slice (some ⟨n,0,none⟩) xs.length xs.length∧h'=h.set n (.row 5 false (bv xs))∧n'=n+1:=by
 obtain ⟨id,off,s⟩:=a
 cases s with
 | none=>exact clone_ev k d cl h n id off xs c hr hm
 | some s=>
  obtain rfl:xs=[]:=by
   rcases hr.2 with e|⟨i,j,e, -⟩
   ·have:=congrArg List.length e
    rw [bv_length] at this
    exact List.length_eq_zero_iff.1 this
   ·cases e
  have hs1:∀ x,SrcIs 1 (h.set n x) (.slice (some ⟨id,off,some s⟩) ([]:List UInt8).length c) 0 []:=fun x=>src_rd (hr.set (Nat.le_refl n) x) (fun h=>by cases h) rfl (by decide)
  refine enter Try.func48 kz rfl kz rfl rfl rfl ?_
  (repeat' first|refine zcd ?_|intro K' hK|(with_reducible refine zn hK ?_;clear hK)|((with_reducible apply o_apR (t:=27) apT27 w_none);(case hs=>exact ez0);(case hy=>exact ez0);(case hsrc=>exact hs1 _);(case hr=>exact ez0);(case hc=>exact bv_cok []);(case hm=>omega);(case hli=>omega);(case hln=>omega);(case hcs=>simp))|((with_reducible first|apply zo1|apply zo2|apply o_guard rfl|apply x_cond|apply k_e1 rfl|apply k_e2 rfl|apply k_e0 rfl|apply k_e3 rfl|apply k_e4 rfl);(case he=>exact ez0);(try case hok=>exact ezO);all_goals try (intro hb;(try simp only [hbs,reduceCtorEq] at hb);try exact ezX))|((with_reducible apply o_undef rfl);(case hb=>exact ez0)))
  (refine sw_row ezI rfl zm (by first|assumption|(simp (disch:=first|assumption|omega|rfl|decide) only [go_sem,seval,tys] <;> rfl)) (by intro v hv;cases hv) ezR ?_;exact ⟨rfl,rfl,rfl⟩)
theorem vstore2_ev (hk:30000≤k) (TA:Option Addr) (T:List Tp) (tc:Nat) (hT:TabH h n TA T) (hS:∀ t∈T,t.fs.length≤20000) (hm:T.length≤9223372036854775807) (lim:Int) (N:Nat) (t:Int) (v:V) (hb:Bd N v) (cs:List Value) (hv:VH h n v cs) (b:Int) (A:Option Addr) (c:Nat) (hs:List UInt8) (hr:RdH h n A (bv hs)) (hA:A=none→c=0) (hhl:hs.length≤20000) :
  SQ k (d+5*N+12) cl 19 [.slice TA T.length tc,.agg ⟨[.int .u64 b,.slice A hs.length c]⟩,.int .i64 lim,.int .i64 t,.agg ⟨cs⟩] h n (StN (storeR T lim N b hs t v) h n):=by
 have qc:=fun (h6:Hp) (n6:Nat) (hT6:TabH h6 n6 TA T)=>(vcheck_ev k (d+5*N+1) n h6 n6 hk TA T tc hT6 hS hm t).mono (Φ':=fun v h' n'=>(∃ z:Int,v = .tuple ⟨[.int .i64 z,.int .i64 (okE T t)]⟩)∧h6=h'∧n6=n') fun _ _ _ hp=>⟨hp.1,hp.2.1.symm,hp.2.2.symm⟩
 rw [show d+5*N+1+10=d+5*N+11 from rfl] at qc
 have qr:=fun (h6:Hp) (n6:Nat)=>(room_ev k (d+5*N+9) n h6 n6 b A hs.length c lim zm).mono (Φ':=fun v h' n'=>(∃ z:Int,v = .tuple ⟨[.int .i64 z,.int .i64 (chkB b hs.length lim)]⟩)∧h6=h'∧n6=n') fun _ _ _ hp=>⟨⟨(roomS b hs.length lim).1,hp.1.trans (by rw [roomS_2])⟩,hp.2.1.symm,hp.2.2.symm⟩
 rw [show d+5*N+9+2=d+5*N+11 from rfl] at qr
 have qv:=fun (h6:Hp) (n6:Nat) (hT6:TabH h6 n6 TA T) (hv6:VH h6 n6 v cs)=>vchk_ev k d n h6 n6 hk TA T tc hT6 hS hm N t v hb cs hv6
 obtain ⟨A1,cc1,rfl, -, -⟩:=hv.cut
 unfold chkV at qv
 unfold storeR
 by_cases hE:okE T t=0
 ·obtain ⟨x,rfl,ho⟩:=okE_0 hE
  rw [if_neg (not_not_intro hE)]
  simp only [hE,if_neg (not_not_intro (rfl:(0:Int)=0)),Int.toNat_natCast] at qc qv ⊢
  by_cases hB:chkB b hs.length lim=0
  ·rw [if_neg (not_not_intro hB)]
   simp only [hB] at qr
   obtain ⟨rfl, -⟩:=chkB_ok hB
   by_cases hF:fitP T N x v 3=true
   ·rw [if_pos hF]
    simp only [if_pos hF] at qv
    have qs:=fun (cl:Nat) (h6:Hp) (n6:Nat) (A c) (cs:List Value) (hT6:TabH h6 n6 TA T) (hv6:VH h6 n6 v cs) (hh6:HR h6 n6 A c hs)=>store_ev k hk TA T tc hS hm lim N x v 3 ho hF (d+3*N) cl h6 n6 A c hs cs hT6 hv6 hh6 hhl
    rw [show d+3*N+2*N+11=d+5*N+11 from by omega] at qs
    rcases A with -|a
    ·obtain rfl:c=0:=hA rfl
     have hs0:hs=[]:=by
      rcases hr.2 with e|⟨id,j,e, -⟩
      ·have:=congrArg List.length e
       rw [bv_length] at this
       exact List.length_eq_zero_iff.1 this
      ·cases e
     subst hs0
     have qs:∀ (cl:Nat) (h6:Hp) (n6:Nat) (cs:List Value),TabH h6 n6 TA T→VH h6 n6 v cs→SQ k (d+5*N+11) cl 49 [.slice TA T.length tc,.agg ⟨[.int .u64 65536,.slice none 0 0]⟩,.int .i64 lim,.int .i64 x,.agg ⟨cs⟩] h6 n6 (StV (storeP T lim N [] x v) none h6 n6):=fun cl h6 n6 cs hT6 hv6=>qs cl h6 n6 none 0 cs hT6 hv6 (.inl ⟨rfl,rfl,rfl⟩)
     have qk:=fun (h6:Hp) (n6:Nat)=>clone_nil k (d+5*N+10) n h6 n6
     obtain ⟨res,hres⟩:∃ res,storeP T lim N [] x v=res:=⟨_,rfl⟩
     rw [hres] at qs ⊢
     cases res with
     | error e=>
      refine enter Try.func19 kz rfl kz rfl rfl rfl ?_
      (repeat' first|refine zcd ?_|intro K' hK|(with_reducible refine zn hK ?_;clear hK)|((with_reducible apply o_callF (g:=37) w_none);(case ha=>exact ez0);(case hs=>((with_reducible apply qc);exact ezT hT));(case' hk=>rintro _ h' n' ⟨⟨z,rfl⟩,rfl,rfl⟩))|((with_reducible apply o_callF (g:=47) w_none);(case ha=>exact ez0);(case hs=>(exact qr _ _));(case' hk=>rintro _ h' n' ⟨⟨z2,rfl⟩,rfl,rfl⟩))|((with_reducible apply o_callF (g:=21) w_none);(case ha=>exact ez0);(case hs=>((with_reducible apply qv);(all_goals first|exact ezT hT|((refine VH.more (B:=n) ?_ zm);(repeat' first|exact hv|refine VH.set ?_ zm _)))));(case' hk=>rintro _ h' n' ⟨rfl,rfl,rfl⟩))|((with_reducible apply o_callF (g:=48) w_none);(case ha=>exact ez0);(case hs=>(exact qk _ _));(case' hk=>rintro _ h' n' ⟨rfl,rfl,rfl⟩))|((with_reducible apply o_callF (g:=49) w_none);(case ha=>exact ez0);(case hs=>((with_reducible apply qs);(all_goals first|((refine TabH.more (B:=n) ?_ zm);(repeat' first|exact hT|refine TabH.set ?_ zm _))|((refine VH.more (B:=n) ?_ zm);(repeat' first|exact hv|refine VH.set ?_ zm _))|exact .inl ⟨rfl,rfl,rfl⟩)));(case' hk=>rintro _ h' n' ⟨O,m,c2,rfl,he0,hn6,hk6, -⟩))|((with_reducible first|apply zo1|apply zo2|apply o_guard rfl|apply x_cond|apply k_e1 rfl|apply k_e2 rfl|apply k_e0 rfl|apply k_e3 rfl|apply k_e4 rfl);(case he=>exact ez0);(try case hok=>exact ezO);all_goals try (intro hb;(try simp only [hbs,reduceCtorEq] at hb);try exact ezX))|((with_reducible apply o_undef rfl);(case hb=>exact ez0)))
      have r10:rowOf h' (n+1+1)=some (29,false,[.int .u64 0,.slice none 0 0]):=(by rw [rowOf_keep (hk6 _ zm)];exact ez0)
      have w10:=rwOf_row r10
      (repeat' first|refine zcd ?_|intro K' hK|(with_reducible refine zn hK ?_;clear hK)|fail|((with_reducible first|apply zo1|apply zo2|apply o_guard rfl|apply x_cond|apply k_e1 rfl|apply k_e2 rfl|apply k_e0 rfl|apply k_e3 rfl|apply k_e4 rfl);(case he=>exact ez1 w10);(try case hok=>exact ezO);all_goals try (intro hb;(try simp only [hbs,reduceCtorEq] at hb);try exact ezX))|((with_reducible apply o_undef rfl);(case hb=>exact ez0)))
      all_goals exact sw_sno2 he0
     | ok r=>
      obtain ⟨hs2,own⟩:=r
      refine enter Try.func19 kz rfl kz rfl rfl rfl ?_
      (repeat' first|refine zcd ?_|intro K' hK|(with_reducible refine zn hK ?_;clear hK)|((with_reducible apply o_callF (g:=37) w_none);(case ha=>exact ez0);(case hs=>((with_reducible apply qc);exact ezT hT));(case' hk=>rintro _ h' n' ⟨⟨z,rfl⟩,rfl,rfl⟩))|((with_reducible apply o_callF (g:=47) w_none);(case ha=>exact ez0);(case hs=>(exact qr _ _));(case' hk=>rintro _ h' n' ⟨⟨z2,rfl⟩,rfl,rfl⟩))|((with_reducible apply o_callF (g:=21) w_none);(case ha=>exact ez0);(case hs=>((with_reducible apply qv);(all_goals first|exact ezT hT|((refine VH.more (B:=n) ?_ zm);(repeat' first|exact hv|refine VH.set ?_ zm _)))));(case' hk=>rintro _ h' n' ⟨rfl,rfl,rfl⟩))|((with_reducible apply o_callF (g:=48) w_none);(case ha=>exact ez0);(case hs=>(exact qk _ _));(case' hk=>rintro _ h' n' ⟨rfl,rfl,rfl⟩))|((with_reducible apply o_callF (g:=49) w_none);(case ha=>exact ez0);(case hs=>((with_reducible apply qs);(all_goals first|((refine TabH.more (B:=n) ?_ zm);(repeat' first|exact hT|refine TabH.set ?_ zm _))|((refine VH.more (B:=n) ?_ zm);(repeat' first|exact hv|refine VH.set ?_ zm _))|exact .inl ⟨rfl,rfl,rfl⟩)));(case' hk=>rintro _ h' n' ⟨A3,c3,bid,rfl,hr3,ho3,hne3,hb1,hb2,hb3,hn6,hk6⟩))|((with_reducible first|apply zo1|apply zo2|apply o_guard rfl|apply x_cond|apply k_e1 rfl|apply k_e2 rfl|apply k_e0 rfl|apply k_e3 rfl|apply k_e4 rfl);(case he=>exact ez0);(try case hok=>exact ezO);all_goals try (intro hb;(try simp only [hbs,reduceCtorEq] at hb);try exact ezX))|((with_reducible apply o_undef rfl);(case hb=>exact ez0)))
      have r10:rowOf h' (n+1+1)=some (29,false,[.int .u64 0,.slice none 0 0]):=(by rw [rowOf_keep (hk6 _ zm)];exact ez0)
      have w10:=rwOf_row r10
      have hA3:A3=none∨∃ id,A3=some ⟨id,0,none⟩∧n+1+1<id:=by
       rcases ho3 with e|⟨id,e,hid⟩
       ·exact .inl e
       ·exact .inr ⟨id,e,by omega⟩
      have hold:∀ b,A3=some ⟨b,0,none⟩→b<n'∧n+1+1<b:=fun b hb=>⟨hr3.old b hb,by
       rcases hA3 with e|⟨id,e,hid⟩
       ·rw [e] at hb;cases hb
       ·rw [hb] at e
        injection e with e
        injection e with e
        omega⟩
      (repeat' first|refine zcd ?_|intro K' hK|(with_reducible refine zn hK ?_;clear hK)|fail|((with_reducible first|apply zo1|apply zo2|apply o_guard rfl|apply x_cond|apply k_e1 rfl|apply k_e2 rfl|apply k_e0 rfl|apply k_e3 rfl|apply k_e4 rfl);(case he=>exact ez1 w10);(try case hok=>exact ezO);all_goals try (intro hb;(try simp only [hbs,reduceCtorEq] at hb);try exact ezX))|((with_reducible apply o_undef rfl);(case hb=>exact ez0)))
      exact sw_store (A:=none) (c:=0) (hs:=[]) (.inl ⟨rfl,rfl,rfl⟩) (hr3.at_ zm (fun b hb=>by have:=hold b hb;(repeat rw [Hp.get_ne _ _ zm]))) (hA3.imp (fun e=>e) fun ⟨id,e,hid⟩=>⟨id,e,by omega⟩) hne3 zm zm (fun b hb=>by (repeat rw [Hp.get_ne _ _ zm]);rw [hk6 _ zm];(repeat rw [Hp.get_ne _ _ zm])) (ezW hb3)
    ·have qk:=fun (h6:Hp) (n6:Nat) (hr6:RdH h6 n6 (some a) (bv hs))=>(clone_any k (d+5*N+10) n h6 n6 a hs c hr6 zm).mono (Φ':=fun v h' n'=>v = .slice (some ⟨n6,0,none⟩) hs.length hs.length∧h6.set n6 (.row 5 false (bv hs))=h'∧n6+1=n') fun _ _ _ hp=>⟨hp.1,hp.2.1.symm,hp.2.2.symm⟩
     rw [show d+5*N+10+1=d+5*N+11 from rfl] at qk
     obtain ⟨res,hres⟩:∃ res,storeP T lim N hs x v=res:=⟨_,rfl⟩
     rw [hres] at qs ⊢
     cases res with
     | error e=>
      refine enter Try.func19 kz rfl kz rfl rfl rfl ?_
      (repeat' first|refine zcd ?_|intro K' hK|(with_reducible refine zn hK ?_;clear hK)|((with_reducible apply o_callF (g:=37) w_none);(case ha=>exact ez0);(case hs=>((with_reducible apply qc);exact ezT hT));(case' hk=>rintro _ h' n' ⟨⟨z,rfl⟩,rfl,rfl⟩))|((with_reducible apply o_callF (g:=47) w_none);(case ha=>exact ez0);(case hs=>(exact qr _ _));(case' hk=>rintro _ h' n' ⟨⟨z2,rfl⟩,rfl,rfl⟩))|((with_reducible apply o_callF (g:=21) w_none);(case ha=>exact ez0);(case hs=>((with_reducible apply qv);(all_goals first|exact ezT hT|((refine VH.more (B:=n) ?_ zm);(repeat' first|exact hv|refine VH.set ?_ zm _)))));(case' hk=>rintro _ h' n' ⟨rfl,rfl,rfl⟩))|((with_reducible apply o_callF (g:=48) w_none);(case ha=>exact ez0);(case hs=>((with_reducible apply qk);exact ezD hr));(case' hk=>rintro _ h' n' ⟨rfl,rfl,rfl⟩))|((with_reducible apply o_callF (g:=49) w_none);(case ha=>exact ez0);(case hs=>((with_reducible apply qs);(all_goals first|((refine TabH.more (B:=n) ?_ zm);(repeat' first|exact hT|refine TabH.set ?_ zm _))|((refine VH.more (B:=n) ?_ zm);(repeat' first|exact hv|refine VH.set ?_ zm _))|exact .inr ⟨_,rfl,by omega,ez0⟩)));(case' hk=>rintro _ h' n' ⟨O,m,c2,rfl,he0,hn6,hk6, -⟩))|((with_reducible first|apply zo1|apply zo2|apply o_guard rfl|apply x_cond|apply k_e1 rfl|apply k_e2 rfl|apply k_e0 rfl|apply k_e3 rfl|apply k_e4 rfl);(case he=>exact ez0);(try case hok=>exact ezO);all_goals try (intro hb;(try simp only [hbs,reduceCtorEq] at hb);try exact ezX))|((with_reducible apply o_undef rfl);(case hb=>exact ez0)))
      have r10:rowOf h' (n+1+1)=some (29,false,[.int .u64 0,.slice none 0 0]):=(by rw [rowOf_keep (hk6 _ zm)];exact ez0)
      have w10:=rwOf_row r10
      (repeat' first|refine zcd ?_|intro K' hK|(with_reducible refine zn hK ?_;clear hK)|fail|((with_reducible first|apply zo1|apply zo2|apply o_guard rfl|apply x_cond|apply k_e1 rfl|apply k_e2 rfl|apply k_e0 rfl|apply k_e3 rfl|apply k_e4 rfl);(case he=>exact ez1 w10);(try case hok=>exact ezO);all_goals try (intro hb;(try simp only [hbs,reduceCtorEq] at hb);try exact ezX))|((with_reducible apply o_undef rfl);(case hb=>exact ez0)))
      all_goals exact sw_sno2 he0
     | ok r=>
      obtain ⟨hs2,own⟩:=r
      refine enter Try.func19 kz rfl kz rfl rfl rfl ?_
      (repeat' first|refine zcd ?_|intro K' hK|(with_reducible refine zn hK ?_;clear hK)|((with_reducible apply o_callF (g:=37) w_none);(case ha=>exact ez0);(case hs=>((with_reducible apply qc);exact ezT hT));(case' hk=>rintro _ h' n' ⟨⟨z,rfl⟩,rfl,rfl⟩))|((with_reducible apply o_callF (g:=47) w_none);(case ha=>exact ez0);(case hs=>(exact qr _ _));(case' hk=>rintro _ h' n' ⟨⟨z2,rfl⟩,rfl,rfl⟩))|((with_reducible apply o_callF (g:=21) w_none);(case ha=>exact ez0);(case hs=>((with_reducible apply qv);(all_goals first|exact ezT hT|((refine VH.more (B:=n) ?_ zm);(repeat' first|exact hv|refine VH.set ?_ zm _)))));(case' hk=>rintro _ h' n' ⟨rfl,rfl,rfl⟩))|((with_reducible apply o_callF (g:=48) w_none);(case ha=>exact ez0);(case hs=>((with_reducible apply qk);exact ezD hr));(case' hk=>rintro _ h' n' ⟨rfl,rfl,rfl⟩))|((with_reducible apply o_callF (g:=49) w_none);(case ha=>exact ez0);(case hs=>((with_reducible apply qs);(all_goals first|((refine TabH.more (B:=n) ?_ zm);(repeat' first|exact hT|refine TabH.set ?_ zm _))|((refine VH.more (B:=n) ?_ zm);(repeat' first|exact hv|refine VH.set ?_ zm _))|exact .inr ⟨_,rfl,by omega,ez0⟩)));(case' hk=>rintro _ h' n' ⟨A3,c3,bid,rfl,hr3,ho3,hne3,hb1,hb2,hb3,hn6,hk6⟩))|((with_reducible first|apply zo1|apply zo2|apply o_guard rfl|apply x_cond|apply k_e1 rfl|apply k_e2 rfl|apply k_e0 rfl|apply k_e3 rfl|apply k_e4 rfl);(case he=>exact ez0);(try case hok=>exact ezO);all_goals try (intro hb;(try simp only [hbs,reduceCtorEq] at hb);try exact ezX))|((with_reducible apply o_undef rfl);(case hb=>exact ez0)))
      have r10:rowOf h' (n+1+1)=some (29,false,[.int .u64 0,.slice none 0 0]):=(by rw [rowOf_keep (hk6 _ zm)];exact ez0)
      have w10:=rwOf_row r10
      have hA3:A3=none∨∃ id,A3=some ⟨id,0,none⟩∧n+1+1<id:=by
       rcases ho3 with e|⟨id,e,hid⟩
       ·exact .inr ⟨_,e,by omega⟩
       ·exact .inr ⟨id,e,by omega⟩
      have hold:∀ b,A3=some ⟨b,0,none⟩→b<n'∧n+1+1<b:=fun b hb=>⟨hr3.old b hb,by
       rcases hA3 with e|⟨id,e,hid⟩
       ·rw [e] at hb;cases hb
       ·rw [hb] at e
        injection e with e
        injection e with e
        omega⟩
      (repeat' first|refine zcd ?_|intro K' hK|(with_reducible refine zn hK ?_;clear hK)|fail|((with_reducible first|apply zo1|apply zo2|apply o_guard rfl|apply x_cond|apply k_e1 rfl|apply k_e2 rfl|apply k_e0 rfl|apply k_e3 rfl|apply k_e4 rfl);(case he=>exact ez1 w10);(try case hok=>exact ezO);all_goals try (intro hb;(try simp only [hbs,reduceCtorEq] at hb);try exact ezX))|((with_reducible apply o_undef rfl);(case hb=>exact ez0)))
      exact sw_store (A:=none) (c:=0) (hs:=[]) (.inl ⟨rfl,rfl,rfl⟩) (hr3.at_ zm (fun b hb=>by have:=hold b hb;(repeat rw [Hp.get_ne _ _ zm]))) (hA3.imp (fun e=>e) fun ⟨id,e,hid⟩=>⟨id,e,by omega⟩) hne3 zm zm (fun b hb=>by (repeat rw [Hp.get_ne _ _ zm]);rw [hk6 _ zm];(repeat rw [Hp.get_ne _ _ zm])) (ezW hb3)
   ·rw [if_neg hF]
    simp only [if_neg hF] at qv
    refine enter Try.func19 kz rfl kz rfl rfl rfl ?_
    (repeat' first|refine zcd ?_|intro K' hK|(with_reducible refine zn hK ?_;clear hK)|((with_reducible apply o_callF (g:=37) w_none);(case ha=>exact ez0);(case hs=>((with_reducible apply qc);exact ezT hT));(case' hk=>rintro _ h' n' ⟨⟨z,rfl⟩,rfl,rfl⟩))|((with_reducible apply o_callF (g:=47) w_none);(case ha=>exact ez0);(case hs=>(exact qr _ _));(case' hk=>rintro _ h' n' ⟨⟨z2,rfl⟩,rfl,rfl⟩))|((with_reducible apply o_callF (g:=21) w_none);(case ha=>exact ez0);(case hs=>((with_reducible apply qv);(all_goals first|exact ezT hT|((refine VH.more (B:=n) ?_ zm);(repeat' first|exact hv|refine VH.set ?_ zm _)))));(case' hk=>rintro _ h' n' ⟨rfl,rfl,rfl⟩))|((with_reducible first|apply zo1|apply zo2|apply o_guard rfl|apply x_cond|apply k_e1 rfl|apply k_e2 rfl|apply k_e0 rfl|apply k_e3 rfl|apply k_e4 rfl);(case he=>exact ez0);(try case hok=>exact ezO);all_goals try (intro hb;(try simp only [hbs,reduceCtorEq] at hb);try exact ezX))|((with_reducible apply o_undef rfl);(case hb=>exact ez0)))
    all_goals exact sw_sno2 (by decide)
  ·rw [if_pos hB]
   obtain ⟨E,hEe⟩:∃ E,chkB b hs.length lim=E:=⟨_,rfl⟩
   simp only [hEe] at qr hB ⊢
   refine enter Try.func19 kz rfl kz rfl rfl rfl ?_
   (repeat' first|refine zcd ?_|intro K' hK|(with_reducible refine zn hK ?_;clear hK)|((with_reducible apply o_callF (g:=37) w_none);(case ha=>exact ez0);(case hs=>((with_reducible apply qc);exact ezT hT));(case' hk=>rintro _ h' n' ⟨⟨z,rfl⟩,rfl,rfl⟩))|((with_reducible apply o_callF (g:=47) w_none);(case ha=>exact ez0);(case hs=>(exact qr _ _));(case' hk=>rintro _ h' n' ⟨⟨z2,rfl⟩,rfl,rfl⟩))|((with_reducible apply o_callF (g:=21) w_none);(case ha=>exact ez0);(case hs=>((with_reducible apply qv);(all_goals first|exact ezT hT|((refine VH.more (B:=n) ?_ zm);(repeat' first|exact hv|refine VH.set ?_ zm _)))));(case' hk=>rintro _ h' n' ⟨rfl,rfl,rfl⟩))|((with_reducible first|apply zo1|apply zo2|apply o_guard rfl|apply x_cond|apply k_e1 rfl|apply k_e2 rfl|apply k_e0 rfl|apply k_e3 rfl|apply k_e4 rfl);(case he=>exact ez0);(try case hok=>exact ezO);all_goals try (intro hb;(try simp only [hbs,reduceCtorEq] at hb);try exact ezX))|((with_reducible apply o_undef rfl);(case hb=>exact ez0)))
   all_goals exact sw_sno2 hB
 ·rw [if_pos hE]
  obtain ⟨E,hEe⟩:∃ E,okE T t=E:=⟨_,rfl⟩
  simp only [hEe] at qc hE ⊢
  refine enter Try.func19 kz rfl kz rfl rfl rfl ?_
  (repeat' first|refine zcd ?_|intro K' hK|(with_reducible refine zn hK ?_;clear hK)|((with_reducible apply o_callF (g:=37) w_none);(case ha=>exact ez0);(case hs=>((with_reducible apply qc);exact ezT hT));(case' hk=>rintro _ h' n' ⟨⟨z,rfl⟩,rfl,rfl⟩))|((with_reducible apply o_callF (g:=47) w_none);(case ha=>exact ez0);(case hs=>(exact qr _ _));(case' hk=>rintro _ h' n' ⟨⟨z2,rfl⟩,rfl,rfl⟩))|((with_reducible apply o_callF (g:=21) w_none);(case ha=>exact ez0);(case hs=>((with_reducible apply qv);(all_goals first|exact ezT hT|((refine VH.more (B:=n) ?_ zm);(repeat' first|exact hv|refine VH.set ?_ zm _)))));(case' hk=>rintro _ h' n' ⟨rfl,rfl,rfl⟩))|((with_reducible first|apply zo1|apply zo2|apply o_guard rfl|apply x_cond|apply k_e1 rfl|apply k_e2 rfl|apply k_e0 rfl|apply k_e3 rfl|apply k_e4 rfl);(case he=>exact ez0);(try case hok=>exact ezO);all_goals try (intro hb;(try simp only [hbs,reduceCtorEq] at hb);try exact ezX))|((with_reducible apply o_undef rfl);(case hb=>exact ez0)))
  all_goals exact sw_sno2 hE
end Go.Proofs.Ytcpkdjikembpnaa.Ce
