/- Parts of the proof of ValueBack: Kj, Jb, Kh. No condition of its own. -/
import Derived.Test.YtcpkdjikembpnaaWaal
import Derived.Test.YtcpkdjikembpnaaWaan
set_option linter.unusedVariables false
set_option linter.unusedSimpArgs false
set_option maxRecDepth 1000000
set_option maxHeartbeats 4000000
namespace Go.Proofs.Ytcpkdjikembpnaa.Ce
section
open Go.RowKit
variable (k d cl:Nat) (h:Hp) (n:Nat)
theorem rparts_nil (hk:30000≤k) (kd el ln:Int) (FA:Option Addr) (fc:Nat) (h6:kd≠6) :
  SQ k (d+1) cl 118 [.agg ⟨[.int .u8 kd,.int .i64 el,.int .i64 ln,.slice FA 0 fc]⟩] h n fun v h' n'=>v = .slice none 0 0∧h'=h∧n'=n:=by
 refine enter Try.func118 kz rfl kz rfl rfl rfl ?_
 (repeat' first|refine zcd ?_|intro K' hK|(with_reducible refine zn hK ?_;clear hK)|(with_reducible refine x_turns ?_)|(with_reducible refine x_turn zm ?_)|(with_reducible refine k_turn ?_)|((with_reducible first|apply zo1|apply zo2|apply o_guard rfl|apply x_cond|apply k_e1 rfl|apply k_e2 rfl|apply k_e0 rfl|apply k_e3 rfl|apply k_e4 rfl);(case he=>exact ez0);(try case hok=>exact ezO);all_goals try (intro hb;(try simp only [hbs,reduceCtorEq] at hb);try exact ezX))|((with_reducible apply o_undef rfl);(case hb=>exact ez0)))
 all_goals exact sw_flat rfl rfl ⟨rfl,rfl,rfl⟩
theorem rparts_arr0 (hk:30000≤k) (el ln:Int) (FA:Option Addr) (fc:Nat) :
  SQ k (d+1) cl 118 [.agg ⟨[.int .u8 6,.int .i64 el,.int .i64 ln,.slice FA 0 fc]⟩] h n fun v h' n'=>v = .slice (some ⟨n,0,none⟩) 1 1∧h'=h.set n (.row 3 false (iv [el]))∧n'=n+1:=by
 refine enter Try.func118 kz rfl kz rfl rfl rfl ?_
 (repeat' first|refine zcd ?_|intro K' hK|(with_reducible refine zn hK ?_;clear hK)|(with_reducible refine x_turns ?_)|(with_reducible refine x_turn zm ?_)|(with_reducible refine k_turn ?_)|((with_reducible apply o_ap0 (t:=99) apT99 w_none);(case hs=>exact ez0);(case hy=>exact ez0);(case hsrc=>exact src_row (rowOf_same _ _ _ _ _) rfl);(case hc=>exact rfl);(case hm=>omega);(case h0=>omega))|((with_reducible first|apply zo1|apply zo2|apply o_guard rfl|apply x_cond|apply k_e1 rfl|apply k_e2 rfl|apply k_e0 rfl|apply k_e3 rfl|apply k_e4 rfl);(case he=>exact ez0);(try case hok=>exact ezO);all_goals try (intro hb;(try simp only [hbs,reduceCtorEq] at hb);try exact ezX))|((with_reducible apply o_undef rfl);(case hb=>exact ez0)))
 (refine sw_row ezI rfl zm (by first|assumption|(simp (disch:=first|assumption|omega|rfl|decide) only [go_sem,seval,tys] <;> rfl)) (by exact iv_idA _ [el]) ezR ?_;exact ⟨rfl,rfl,rfl⟩)
theorem rparts_fld (hk:30000≤k) (kd el ln:Int) (FA:Option Addr) (fs:List (List UInt8 × Int)) (fc:Nat) (h6:kd≠6) (h0:fs≠[]) (hr:RdH h n FA (fv fs)) (hl2:fs.length≤20000) :
  SQ k (d+1) cl 118 [.agg ⟨[.int .u8 kd,.int .i64 el,.int .i64 ln,.slice FA fs.length fc]⟩] h n fun v h' n'=>v = .slice (some ⟨n,0,none⟩) fs.length fs.length∧h'=h.set n (.row 3 false (iv (fs.map (·.2))))∧n'=n+1:=by
 have h0l:0<fs.length:=List.length_pos_iff.2 h0
 refine enter Try.func118 kz rfl kz rfl rfl rfl ?_
 (repeat' first|refine zcd ?_|intro K' hK|(with_reducible refine zn hK ?_;clear hK)|fail|((with_reducible first|apply zo1|apply zo2|apply o_guard rfl|apply x_cond|apply k_e1 rfl|apply k_e2 rfl|apply k_e0 rfl|apply k_e3 rfl|apply k_e4 rfl);(case he=>exact ez0);(try case hok=>exact ezO);all_goals try (intro hb;(try simp only [hbs,reduceCtorEq] at hb);try exact ezX))|((with_reducible apply o_undef rfl);(case hb=>exact ez0)))
 refine x_loopV [3,4,13,14,15,16,17,18,19,20,21,22,23,24,25,26,27,28] [3,4] (fun m vs h' n'=>∃ (q:Nat) (O:Value),m=fs.length - q∧q≤fs.length∧vs=[O,.int .i64 q]∧RdH h' n FA (fv fs)∧rowOf h' n=some (64,false,[.int .u8 kd,.int .i64 el,.int .i64 ln,.slice FA fs.length fc])∧n+1≤n' ∧
   ((q=0∧O = .slice none 0 0)∨(0<q∧∃ id,n+1≤id∧id<n'∧O = .slice (some ⟨id,0,none⟩) q q∧rowOf h' id=some (3,false,iv ((fs.take q).map (·.2)))))) fs.length rfl zm ?_ ?_
 ·exact ⟨0,.slice none 0 0,rfl,by omega,by simp (disch:=first|assumption|omega|rfl|decide) only [go_sem,seval,tys] <;> rfl,by exact ezD hr,by simp (disch:=first|assumption|omega|rfl|decide) only [go_sem,seval,tys],by omega,.inl ⟨rfl,rfl⟩⟩
 ·rintro m g _ h' n' ⟨q,O,rfl,hq,rfl,r2,q0,hn,hO⟩
  have d0:=fun o=>cellAt_row (off:=o) q0
  by_cases hqf:q<fs.length
  ·obtain ⟨id2,off2,rfl,hid2, -, -,hfb⟩:=fld_at r2 hqf
   obtain ⟨ty,hty⟩:∃ ty,(fs[q]).2=ty:=⟨_,rfl⟩
   rw [hty] at hfb
   have htk:iv ((fs.take (q+1)).map (·.2))=iv ((fs.take q).map (·.2)) ++ [.int .i64 ty]:=by rw [List.take_succ_eq_append_getElem hqf,List.map_append,iv_app];simp [iv,hty]
   have htl:(iv ((fs.take q).map (·.2))).length=q:=by rw [iv_length,List.length_map,List.length_take];omega
   have htw:(iv ((fs.take q).map (·.2))).take q=iv ((fs.take q).map (·.2)):=List.take_of_length_le zm
   rcases hO with ⟨rfl,rfl⟩|⟨hp0,id,k1,k2,rfl,q4⟩
   ·(repeat' first|refine zcd ?_|intro K' hK|(with_reducible refine zn hK ?_;clear hK)|((with_reducible apply o_ap0 (t:=99) apT99 w_none);(case hs=>exact ez0);(case hy=>exact ez0);(case hsrc=>exact src_row (rowOf_same _ _ _ _ _) rfl);(case hc=>exact rfl);(case hm=>omega);(case h0=>omega))|((with_reducible first|apply zo1|apply zo2|apply o_guard rfl|apply x_cond|apply k_e1 rfl|apply k_e2 rfl|apply k_e0 rfl|apply k_e3 rfl|apply k_e4 rfl);(case he=>exact ez2 d0 hfb);(try case hok=>exact ezO);all_goals try (intro hb;(try simp only [hbs,reduceCtorEq] at hb);try exact ezX))|((with_reducible apply o_undef rfl);(case hb=>exact ez0)))
    refine k_round (fs.length - 1) zm ⟨1,.slice (some ⟨n'+1,0,none⟩) 1 1,rfl,by omega,by simp (disch:=first|assumption|omega|rfl|decide) only [go_sem,seval,tys] <;> rfl,by exact ezD r2,by simp (disch:=first|assumption|omega|rfl|decide) only [go_sem,seval,tys,q0],by omega,.inr ⟨by omega,n'+1,by omega,by omega,rfl,?_⟩⟩
    rw [htk]
    simp (disch:=first|assumption|omega|rfl|decide) only [go_sem,seval,tys]
    exact rfl
   ·have w4:=rwOf_row q4
    (repeat' first|refine zcd ?_|intro K' hK|(with_reducible refine zn hK ?_;clear hK)|((with_reducible apply o_apR (t:=99) apT99 w_none);(case hs=>exact ez1 w4);(case hy=>exact ez1 w4);(case hsrc=>exact src_row (rowOf_same _ _ _ _ _) rfl);(case hr=>exact ez1 w4);(case hc=>exact rfl);(case hm=>omega);(case hli=>omega);(case hln=>omega);(case hcs=>omega))|((with_reducible first|apply zo1|apply zo2|apply o_guard rfl|apply x_cond|apply k_e1 rfl|apply k_e2 rfl|apply k_e0 rfl|apply k_e3 rfl|apply k_e4 rfl);(case he=>exact ez2 d0 hfb);(try case hok=>exact ezO);all_goals try (intro hb;(try simp only [hbs,reduceCtorEq] at hb);try exact ezX))|((with_reducible apply o_undef rfl);(case hb=>exact ez0)))
    refine k_round (fs.length - (q+1)) zm ⟨q+1,.slice (some ⟨n'+1,0,none⟩) (q+1) (q+1),rfl,by omega,by simp (disch:=first|assumption|omega|rfl|decide) only [go_sem,seval,tys] <;> rfl,by exact ezD r2,by simp (disch:=first|assumption|omega|rfl|decide) only [go_sem,seval,tys,q0],by omega,.inr ⟨by omega,n'+1,by omega,by omega,rfl,?_⟩⟩
    rw [htk]
    simp (disch:=first|assumption|omega|rfl|decide) only [go_sem,seval,tys,htw]
  ·obtain rfl:q=fs.length:=by omega
   rcases hO with ⟨hz, -⟩|⟨hp0,id,k1,k2,rfl,q4⟩
   ·omega
   ·rw [List.take_length] at q4
    (repeat' first|refine zcd ?_|intro K' hK|(with_reducible refine zn hK ?_;clear hK)|fail|((with_reducible first|apply zo1|apply zo2|apply o_guard rfl|apply x_cond|apply k_e1 rfl|apply k_e2 rfl|apply k_e0 rfl|apply k_e3 rfl|apply k_e4 rfl);(case he=>exact ez1 d0);(try case hok=>exact ezO);all_goals try (intro hb;(try simp only [hbs,reduceCtorEq] at hb);try exact ezX))|((with_reducible apply o_undef rfl);(case hb=>exact ez0)))
    refine sw_row ezI rfl zm (by simp (disch:=first|assumption|omega|rfl|decide) only [go_sem,seval,tys,q4];exact rfl) (iv_idA _ _) ezR ?_
    exact ⟨rfl,rfl,rfl⟩
end
section
open Go.RowKit
def wq (now:List Int) (fs:List (List UInt8 × Int)) (q:Nat):Int:=min (1+sumF now (fs.take q)) 5001
theorem wq_zero (now:List Int) (fs:List (List UInt8 × Int)):wq now fs 0=1:=by simp [wq,sumF];rfl
theorem wq_succ {now:List Int} (hn:Bnd now) {fs:List (List UInt8 × Int)} {q:Nat} (hq:q<fs.length):min (wq now fs q+now.getD (fs[q]).2.toNat 0) 5001=wq now fs (q+1):=by
 have h1:=hn.getD (fs[q]).2.toNat
 have h2:=sumF_bnd hn (fs.take q)
 unfold wq
 rw [sumF_take now hq]
 omega
theorem wOne_4 {below now:List Int} {t:Tp} (h:t.kd=4) (hf:t.fs=[]):wOne below now t=min (1+below.getD t.el.toNat 0) 5001:=by unfold wOne wHead;rw [if_pos h,hf];simp [sumF]
theorem wOne_7 {below now:List Int} {t:Tp} (h:t.kd=7) (hf:t.fs=[]):wOne below now t=min (1+16*below.getD t.el.toNat 0) 5001:=by unfold wOne wHead;rw [if_neg zm,if_pos h,hf];simp [sumF]
theorem wOne_6 {below now:List Int} {t:Tp} (h:t.kd=6) (hf:t.fs=[]):wOne below now t=min (1+t.ln*now.getD t.el.toNat 0) 5001:=by unfold wOne wHead;rw [if_neg zm,if_neg zm,if_pos h,hf];simp [sumF]
theorem wOne_f {below now:List Int} {t:Tp} (h4:t.kd≠4) (h7:t.kd≠7) (h6:t.kd≠6):wOne below now t=wq now t.fs t.fs.length:=by unfold wOne wHead wq;rw [if_neg h4,if_neg h7,if_neg h6,List.take_length];simp
theorem zeros_getD (m i:Nat):(zeros m).getD i 0=0:=by
 rw [List.getD_eq_getElem?_getD]
 unfold zeros
 by_cases h:i<m
 ·rw [List.getElem?_replicate];simp [h]
 ·rw [List.getElem?_eq_none (by simp;omega)];rfl
end
section
open Go.RowKit
def leadsT (far:Bool) (t:Tp):List Int:=if t.kd=6∨(far=true∧(t.kd=4∨t.kd=7)) then [t.el] else t.fs.map (·.2)
theorem leadsT_in {far:Bool} {m i:Nat} {t:Tp} (h:fineB m i t=true) (hi:i≤m):∀ x∈leadsT far t,0≤x∧x<m:=by
 intro x hx
 unfold leadsT at hx
 split at hx
 ·obtain rfl:=List.mem_singleton.1 hx
  rename_i hc
  rcases hc with h6|⟨-,h47⟩
  ·have:=fine_arr h h6;omega
  ·exact fine_el h h47
 ·obtain ⟨f,hf,rfl⟩:=List.mem_map.1 hx
  obtain ⟨q,hq,rfl⟩:=List.getElem_of_mem hf
  have:=fine_fld h hq
  omega
theorem leadsT_len {far:Bool} {m i:Nat} {t:Tp} (h:fineB m i t=true):(leadsT far t).length≤8:=by
 unfold leadsT
 split
 ·show 1≤8;decide
 ·rw [List.length_map];exact fine_len h
variable (k d cl:Nat) (h:Hp) (n:Nat)
theorem pleads_one (hk:30000≤k) (kd el ln:Int) (far:Bool) (FA:Option Addr) (fc:Nat) (hc:kd=6∨(far=true∧(kd=4∨kd=7))) :
  SQ k (d+1) cl 121 [.agg ⟨[.int .u8 kd,.int .i64 el,.int .i64 ln,.slice FA 0 fc]⟩,.bool far] h n fun v h' n'=>v = .slice (some ⟨n,0,none⟩) 1 1∧h'=h.set n (.row 3 false (iv [el]))∧n'=n+1:=by
 refine enter Try.func121 kz rfl kz rfl rfl rfl ?_
 rcases hc with rfl|⟨rfl,rfl|rfl⟩
 all_goals
  (repeat' first|refine zcd ?_|intro K' hK|(with_reducible refine zn hK ?_;clear hK)|(with_reducible refine x_turns ?_)|(with_reducible refine x_turn zm ?_)|(with_reducible refine k_turn ?_)|((with_reducible apply o_ap0 (t:=99) apT99 w_none);(case hs=>exact ez0);(case hy=>exact ez0);(case hsrc=>exact src_row (rowOf_same _ _ _ _ _) rfl);(case hc=>exact rfl);(case hm=>omega);(case h0=>omega))|((with_reducible first|apply zo1|apply zo2|apply o_guard rfl|apply x_cond|apply k_e1 rfl|apply k_e2 rfl|apply k_e0 rfl|apply k_e3 rfl|apply k_e4 rfl);(case he=>exact ez0);(try case hok=>exact ezO);all_goals try (intro hb;(try simp only [hbs,reduceCtorEq] at hb);try exact ezX))|((with_reducible apply o_undef rfl);(case hb=>exact ez0)))
  (refine sw_row ezI rfl zm (by first|assumption|(simp (disch:=first|assumption|omega|rfl|decide) only [go_sem,seval,tys] <;> rfl)) (by exact iv_idA _ [el]) ezR ?_;exact ⟨rfl,rfl,rfl⟩)
theorem pleads_nil (hk:30000≤k) (kd el ln:Int) (far:Bool) (FA:Option Addr) (fc:Nat) (hc:¬ (kd=6∨(far=true∧(kd=4∨kd=7)))) :
  SQ k (d+1) cl 121 [.agg ⟨[.int .u8 kd,.int .i64 el,.int .i64 ln,.slice FA 0 fc]⟩,.bool far] h n fun v h' n'=>v = .slice none 0 0∧h'=h∧n'=n:=by
 have h6:kd≠6:=fun e=>hc (.inl e)
 refine enter Try.func121 kz rfl kz rfl rfl rfl ?_
 cases far
 ·(repeat' first|refine zcd ?_|intro K' hK|(with_reducible refine zn hK ?_;clear hK)|(with_reducible refine x_turns ?_)|(with_reducible refine x_turn zm ?_)|(with_reducible refine k_turn ?_)|((with_reducible first|apply zo1|apply zo2|apply o_guard rfl|apply x_cond|apply k_e1 rfl|apply k_e2 rfl|apply k_e0 rfl|apply k_e3 rfl|apply k_e4 rfl);(case he=>exact ez0);(try case hok=>exact ezO);all_goals try (intro hb;(try simp only [hbs,reduceCtorEq] at hb);try exact ezX))|((with_reducible apply o_undef rfl);(case hb=>exact ez0)))
  all_goals exact sw_flat rfl rfl ⟨rfl,rfl,rfl⟩
 ·have h4:kd≠4:=fun e=>hc (.inr ⟨rfl,.inl e⟩)
  have h7:kd≠7:=fun e=>hc (.inr ⟨rfl,.inr e⟩)
  (repeat' first|refine zcd ?_|intro K' hK|(with_reducible refine zn hK ?_;clear hK)|(with_reducible refine x_turns ?_)|(with_reducible refine x_turn zm ?_)|(with_reducible refine k_turn ?_)|((with_reducible first|apply zo1|apply zo2|apply o_guard rfl|apply x_cond|apply k_e1 rfl|apply k_e2 rfl|apply k_e0 rfl|apply k_e3 rfl|apply k_e4 rfl);(case he=>exact ez0);(try case hok=>exact ezO);all_goals try (intro hb;(try simp only [hbs,reduceCtorEq] at hb);try exact ezX))|((with_reducible apply o_undef rfl);(case hb=>exact ez0)))
  all_goals exact sw_flat rfl rfl ⟨rfl,rfl,rfl⟩
theorem pleads_fld (hk:30000≤k) (el ln:Int) (far:Bool) (FA:Option Addr) (fs:List (List UInt8 × Int)) (fc:Nat) (h0:fs≠[]) (hr:RdH h n FA (fv fs)) (hl2:fs.length≤20000) :
  SQ k (d+1) cl 121 [.agg ⟨[.int .u8 5,.int .i64 el,.int .i64 ln,.slice FA fs.length fc]⟩,.bool far] h n fun v h' n'=>v = .slice (some ⟨n,0,none⟩) fs.length fs.length∧h'=h.set n (.row 3 false (iv (fs.map (·.2))))∧n'=n+1:=by
 have h0l:0<fs.length:=List.length_pos_iff.2 h0
 refine enter Try.func121 kz rfl kz rfl rfl rfl ?_
 cases far
 all_goals
  (repeat' first|refine zcd ?_|intro K' hK|(with_reducible refine zn hK ?_;clear hK)|fail|((with_reducible first|apply zo1|apply zo2|apply o_guard rfl|apply x_cond|apply k_e1 rfl|apply k_e2 rfl|apply k_e0 rfl|apply k_e3 rfl|apply k_e4 rfl);(case he=>exact ez0);(try case hok=>exact ezO);all_goals try (intro hb;(try simp only [hbs,reduceCtorEq] at hb);try exact ezX))|((with_reducible apply o_undef rfl);(case hb=>exact ez0)))
  refine x_loopV [5,7,32,33,34,35,36,37,38,39,40,41] [5,32] (fun m vs h' n'=>∃ (q:Nat) (O:Value),m=fs.length - q∧q≤fs.length∧vs=[O,.int .i64 q]∧RdH h' n FA (fv fs)∧n+1≤n'∧OwnI ((fs.take q).map (·.2)) O h' (n+1) n') fs.length rfl zm ?_ ?_
  ·exact ⟨0,.slice none 0 0,rfl,by omega,ez0,by exact ezD hr,by omega,.inl ⟨rfl,rfl⟩⟩
  ·rintro m g _ h' n' ⟨q,O,rfl,hq,rfl,r2,hn,hO⟩
   by_cases hqf:q<fs.length
   ·obtain ⟨id2,off2,rfl,hid2,hfa, -, -⟩:=fld_at r2 hqf
    obtain ⟨ty,hty⟩:∃ ty,(fs[q]).2=ty:=⟨_,rfl⟩
    rw [hty] at hfa
    have htk:(fs.take (q+1)).map (·.2)=(fs.take q).map (·.2) ++ [ty]:=by rw [List.take_succ_eq_append_getElem hqf,List.map_append,← hty];rfl
    have htl:((fs.take q).map (·.2)).length=q:=by rw [List.length_map,List.length_take];omega
    obtain ⟨acc,hacc⟩:∃ acc,(fs.take q).map (·.2)=acc:=⟨_,rfl⟩
    rw [hacc] at hO htk htl
    rcases hO with ⟨hp0,rfl⟩|⟨hp0,id,k1,k2,rfl,q4⟩
    ·(repeat' first|refine zcd ?_|intro K' hK|(with_reducible refine zn hK ?_;clear hK)|((with_reducible apply o_ap0 (t:=99) apT99 w_none);(case hs=>exact ez0);(case hy=>exact ez0);(case hsrc=>exact src_row (rowOf_same _ _ _ _ _) rfl);(case hc=>exact rfl);(case hm=>omega);(case h0=>omega))|((with_reducible first|apply zo1|apply zo2|apply o_guard rfl|apply x_cond|apply k_e1 rfl|apply k_e2 rfl|apply k_e0 rfl|apply k_e3 rfl|apply k_e4 rfl);(case he=>exact ez1 hfa);(try case hok=>exact ezO);all_goals try (intro hb;(try simp only [hbs,reduceCtorEq] at hb);try exact ezX))|((with_reducible apply o_undef rfl);(case hb=>exact ez0)))
     refine k_round (fs.length - (q+1)) zm ⟨q+1,.slice (some ⟨n'+1+1,0,none⟩) 1 1,rfl,by omega,ez0,by exact ezD r2,by omega,.inr ⟨by rw [htk];simp,n'+1+1,by omega,by omega,by rw [htk,hp0];rfl,by rw [htk,hp0];exact rowOf_same _ _ _ _ _⟩⟩
    ·have w4:=rwOf_row q4
     have htw:(iv acc).take acc.length=iv acc:=List.take_of_length_le (by rw [iv_length];omega)
     (repeat' first|refine zcd ?_|intro K' hK|(with_reducible refine zn hK ?_;clear hK)|((with_reducible apply o_apR (t:=99) apT99 w_none);(case hs=>exact ez1 w4);(case hy=>exact ez1 w4);(case hsrc=>exact src_row (rowOf_same _ _ _ _ _) rfl);(case hr=>exact ez1 w4);(case hc=>exact rfl);(case hm=>omega);(case hli=>omega);(case hln=>omega);(case hcs=>rw [iv_length];omega))|((with_reducible first|apply zo1|apply zo2|apply o_guard rfl|apply x_cond|apply k_e1 rfl|apply k_e2 rfl|apply k_e0 rfl|apply k_e3 rfl|apply k_e4 rfl);(case he=>exact ez2 hfa w4);(try case hok=>exact ezO);all_goals try (intro hb;(try simp only [hbs,reduceCtorEq] at hb);try exact ezX))|((with_reducible apply o_undef rfl);(case hb=>exact ez0)))
     refine k_round (fs.length - (q+1)) zm ⟨q+1,.slice (some ⟨n'+1+1,0,none⟩) (acc.length+1) (acc.length+1),rfl,by omega,ez0,by exact ezD r2,by omega,.inr ⟨by rw [htk];simp,n'+1+1,by omega,by omega,by rw [htk,List.length_append];rfl,by rw [htk,iv_app1];exact ez1 htw⟩⟩
   ·obtain rfl:q=fs.length:=by omega
    rw [List.take_length] at hO
    rcases hO with ⟨hp0, -⟩|⟨hp0,id,k1,k2,rfl,q4⟩
    ·exact absurd (List.map_eq_nil_iff.1 hp0) h0
    ·rw [List.length_map]
     (repeat' first|refine zcd ?_|intro K' hK|(with_reducible refine zn hK ?_;clear hK)|fail|((with_reducible first|apply zo1|apply zo2|apply o_guard rfl|apply x_cond|apply k_e1 rfl|apply k_e2 rfl|apply k_e0 rfl|apply k_e3 rfl|apply k_e4 rfl);(case he=>exact ez0);(try case hok=>exact ezO);all_goals try (intro hb;(try simp only [hbs,reduceCtorEq] at hb);try exact ezX))|((with_reducible apply o_undef rfl);(case hb=>exact ez0)))
     refine sw_row (m:=id) ezI rfl zm q4 (iv_idA _ _) ezR ?_
     exact ⟨rfl,rfl,rfl⟩
theorem pleads_ev (hk:30000≤k) (far:Bool) {m i:Nat} {t:Tp} (hf:fineB m i t=true) (hr:RdH h n t.A (fv t.fs)) :
  SQ k (d+1) cl 121 [.agg ⟨[.int .u8 t.kd,.int .i64 t.el,.int .i64 t.ln,.slice t.A t.fs.length t.c]⟩,.bool far] h n (IntsV (leadsT far t) h n):=by
 by_cases hc:t.kd=6∨(far=true∧(t.kd=4∨t.kd=7))
 ·have h5:t.kd≠5:=by omega
  have hn:=fine_nofs hf h5
  have hl:leadsT far t=[t.el]:=by unfold leadsT;rw [if_pos hc]
  rw [hl,hn]
  exact (pleads_one k d cl h n hk t.kd t.el t.ln far t.A t.c hc).mono fun _ _ _ hh=>.inr ⟨by simp,hh⟩
 ·have hl:leadsT far t=t.fs.map (·.2):=by unfold leadsT;rw [if_neg hc]
  rw [hl]
  by_cases h5:t.kd=5
  ·have hs:=fine_len hf
   by_cases hn:t.fs=[]
   ·rw [hn]
    exact (pleads_nil k d cl h n hk t.kd t.el t.ln far t.A t.c hc).mono fun _ _ _ hh=>.inl ⟨rfl,hh⟩
   ·rw [h5]
    refine (pleads_fld k d cl h n hk t.el t.ln far t.A t.fs t.c hn hr zm).mono fun _ _ _ hh=>.inr ⟨by simpa using hn,?_⟩
    rw [List.length_map]
    exact hh
  ·have hn:=fine_nofs hf h5
   rw [hn]
   exact (pleads_nil k d cl h n hk t.kd t.el t.ln far t.A t.c hc).mono fun _ _ _ hh=>.inl ⟨rfl,hh⟩
end
section
open Go.RowKit
inductive Rch (T:List Tp) (far:Bool) (i:Nat):Nat→Prop
 | refl:Rch T far i i
 | step {x y:Nat} (hr:Rch T far i x) (hx:x<T.length) (hy:(y:Int)∈leadsT far T[x]):Rch T far i y
open Classical in
noncomputable def rchF (T:List Tp) (far:Bool) (i:Nat):List Bool:=(List.range T.length).map fun x=>decide (Rch T far i x)
theorem rchF_length (T:List Tp) (far:Bool) (i:Nat):(rchF T far i).length=T.length:=by unfold rchF;rw [List.length_map,List.length_range]
theorem rchF_get {T:List Tp} {far:Bool} {i x:Nat} (hx:x<T.length):(rchF T far i)[x]?=some true↔Rch T far i x:=by
 unfold rchF
 rw [List.getElem?_map,List.getElem?_range hx,Option.map_some]
 simp
theorem Rch.lt {T:List Tp} {far:Bool} {i x:Nat} (hF:Fine T) (hi:i<T.length) (h:Rch T far i x):x<T.length:=by
 induction h with
 | refl=>exact hi
 | step hr hx hy ih=>
  have:=leadsT_in (hF _ hx) zm _ hy
  omega
theorem Rch.trans {T:List Tp} {far:Bool} {i x y:Nat} (h:Rch T far i x) (h2:Rch T far x y):Rch T far i y:=by
 induction h2 with
 | refl=>exact h
 | step hr hx hy ih=>exact .step ih hx hy
theorem rchF_eq {T:List Tp} {far:Bool} {i:Nat} {F:List Bool} (hF:Fine T) (hi:i<T.length) (hl:F.length=T.length) (h0:F[i]?=some true) (h1:∀ x,x<T.length→F[x]?=some true→Rch T far i x)
  (h2:∀ x (hx:x<T.length),F[x]?=some true→∀ y:Nat,(y:Int)∈leadsT far T[x]→F[y]?=some true):F=rchF T far i:=by
 refine List.ext_getElem? fun x=>?_
 by_cases hx:x<T.length
 ·have key:F[x]?=some true↔(rchF T far i)[x]?=some true:=by
   rw [rchF_get hx]
   refine ⟨h1 x hx,fun hr=>?_⟩
   clear hx
   induction hr with
   | refl=>exact h0
   | step hr hx hy ih=>exact h2 _ hx ih _ hy
  rw [List.getElem?_eq_getElem zm,List.getElem?_eq_getElem (by rw [rchF_length];exact hx)] at key ⊢
  cases hb:F[x]'zm <;> cases hc:(rchF T far i)[x]'(by rw [rchF_length];exact hx) <;> simp_all
 ·rw [List.getElem?_eq_none zm,List.getElem?_eq_none (by rw [rchF_length];omega)]
def cn (l:List Nat):List Int:=l.map fun (x:Nat)=>(x:Int)
theorem cn_length (l:List Nat):(cn l).length=l.length:=by simp [cn]
theorem cn_app (l l':List Nat):cn (l ++ l')=cn l ++ cn l':=by simp [cn]
def OwnS (ops:List Nat) (O:Value) (h:Hp) (lo n:Nat):Prop:=
 ∃ id cs,lo≤id∧id<n∧O = .slice (some ⟨id,0,none⟩) ops.length ops.length∧rowOf h id=some (3,false,cs)∧ops.length≤cs.length∧cs.take ops.length=iv (cn ops)
theorem RdH.kill {h:Hp} {B id:Nat} {A:Option Addr} {vs:List Value} (hr:RdH h B A vs) (hb:∀ b o,A=some ⟨b,o,none⟩→b≠id) (x:AObj):RdH (h.set id x) B A vs:=by
 refine ⟨hr.1,?_⟩
 rcases hr.2 with e|⟨i,off,e,hc⟩
 ·exact .inl e
 ·exact .inr ⟨i,off,e,fun k v hk=>by rw [cellAt_ne _ _ _ (hb i off e)];exact hc k v hk⟩
def IntsR (l:List Int) (h:Hp) (n:Nat) (v:Value) (h':Hp) (n':Nat):Prop:=
 ∃ LA c,v = .slice LA l.length c∧RdH h' n' LA (iv l)∧(∀ b o,LA=some ⟨b,o,none⟩→b=n)∧n≤n'∧∀ b,b<n→h'.get b=h.get b
theorem IntsV.rd {l:List Int} {h h':Hp} {n n':Nat} {v:Value} (hh:IntsV l h n v h' n'):IntsR l h n v h' n':=by
 rcases hh with ⟨rfl,rfl,rfl,rfl⟩|⟨-,rfl,rfl,rfl⟩
 ·exact ⟨none,0,rfl,RdH.nil,fun b o e=>(by cases e),Nat.le_refl _,fun _ _=>rfl⟩
 ·exact ⟨some ⟨n,0,none⟩,_,rfl,RdH.row zm,fun b o e=>(by injection e with e;injection e with e1;omega),by omega,fun b hb=>Hp.get_ne _ _ zm⟩
theorem rowOf_keep {h h':Hp} {b:Nat} (e:h'.get b=h.get b):rowOf h' b=rowOf h b:=by unfold rowOf;rw [e]
theorem RdH.keep {h h':Hp} {B n:Nat} {A:Option Addr} {vs:List Value} (hr:RdH h B A vs) (hB:B≤n) (hk:∀ b,b<n→h'.get b=h.get b):RdH h' B A vs:=by
 refine ⟨hr.1,?_⟩
 rcases hr.2 with e|⟨i,off,e,hc⟩
 ·exact .inl e
 ·have hi:=hr.1 i off e
  exact .inr ⟨i,off,e,fun k v hkv=>by rw [show cellAt h' i (off+k)=cellAt h i (off+k) from by unfold cellAt;rw [rowOf_keep (hk i zm)]];exact hc k v hkv⟩
theorem TabH.keep {h h':Hp} {B n:Nat} {A:Option Addr} {T:List Tp} (hT:TabH h B A T) (hB:B≤n) (hk:∀ b,b<n→h'.get b=h.get b):TabH h' B A T:=⟨hT.rd.keep hB hk,fun t ht=>(hT.fd t ht).keep hB hk,hT.nl,hT.bd⟩
end
section
open Go.RowKit
variable (k d cl:Nat) (h:Hp) (n:Nat)
theorem b_strq (s t:List UInt8) (h:Hp) (n:Nat):mBin Try.prog .eql 9 (.string ⟨⟨s⟩⟩) (.string ⟨⟨t⟩⟩) h n=some ⟨.bool (decide (s=t)),h,n,[],[]⟩:=by
 show (prun Try.prog (Op.stringOp .eql ⟨⟨s⟩⟩ ⟨⟨t⟩⟩)).bind (fun v=>bif flat1 v then mV v h n else none)=_
 have:prun Try.prog (Op.stringOp .eql ⟨⟨s⟩⟩ ⟨⟨t⟩⟩)=some (.bool (decide (s=t))):=by
  show some (Value.bool ((⟨⟨s⟩⟩:ByteArray).toList == (⟨⟨t⟩⟩:ByteArray).toList))=_
  rw [show ((⟨⟨s⟩⟩:ByteArray).toList == (⟨⟨t⟩⟩:ByteArray).toList)=decide (s=t) from by rw [Bool.eq_iff_iff,decide_eq_true_eq,beq_iff_eq];simp [ByteArray.toList_eq]]
 rw [this]
 rfl
def flB (fs:List (List UInt8 × Int)):Bool:=fs.all (fun f=>namedB f.1) && decide ((fs.map (·.1)).Nodup)
theorem flB_no {q:Nat} {fs:List (List UInt8 × Int)} (hq:q<fs.length) (h:namedB (fs[q]).1=false):flB fs=false:=by
 unfold flB
 have:fs.all (fun f=>namedB f.1)=false:=by
  rw [List.all_eq_false]
  exact ⟨fs[q],List.getElem_mem _,by rw [h];exact Bool.false_ne_true⟩
 rw [this,Bool.false_and]
theorem flB_dup {q j:Nat} {fs:List (List UInt8 × Int)} (hq:q<fs.length) (hj:j<q) (h:(fs[j]).1=(fs[q]).1):flB fs=false:=by
 unfold flB
 have:¬ (fs.map (·.1)).Nodup:=by
  intro hn
  rw [List.nodup_iff_pairwise_ne,List.pairwise_iff_getElem] at hn
  exact hn j q (by simp;omega) (by simp;omega) hj (by simpa using h)
 rw [decide_eq_false this,Bool.and_false]
theorem fldsB_eq (i:Nat) (fs:List (List UInt8 × Int)):fldsB i fs=(fs.all (fun f=>decide (0≤f.2∧f.2<(i:Int))) && flB fs):=by
 unfold fldsB flB
 rw [← Bool.and_assoc]
 congr 1
 rw [Bool.eq_iff_iff]
 simp only [List.all_eq_true,Bool.and_eq_true,fldB]
 constructor
 ·intro h;exact ⟨fun x hx=>(h x hx).2,fun x hx=>(h x hx).1⟩
 ·intro h x hx;exact ⟨h.2 x hx,h.1 x hx⟩
theorem rfields_ev (hk:30000≤k) (FA:Option Addr) (fs:List (List UInt8 × Int)) (c:Nat) (hr:RdH h n FA (fv fs)) (hl2:fs.length≤20000) :
  SQ k (d+3) cl 135 [.slice FA fs.length c,.int .i64 8] h n fun v h' n'=>v = .bool (decide (fs.length≤8) && flB fs)∧h'=h∧n'=n:=by
 refine enter Try.func135 kz rfl kz rfl rfl rfl ?_
 by_cases h8:fs.length≤8
 ·rw [decide_eq_true h8]
  (repeat' first|refine zcd ?_|intro K' hK|(with_reducible refine zn hK ?_;clear hK)|fail|((with_reducible first|apply zo1|apply zo2|apply o_guard rfl|apply x_cond|apply k_e1 rfl|apply k_e2 rfl|apply k_e0 rfl|apply k_e3 rfl|apply k_e4 rfl);(case he=>exact ez0);(try case hok=>exact ezO);all_goals try (intro hb;(try simp only [hbs,reduceCtorEq] at hb);try exact ezX))|((with_reducible apply o_undef rfl);(case hb=>exact ez0)))
  refine x_loopF [4,5,6,11,12,13,14,15,16,17,18,19,20,21,22,23,24,25,26,27,28,29,30,31,32,33,34,35,36,37,38,39] [5] (fun m vs=>∃ q:Nat,m=fs.length - q∧q≤fs.length∧vs=[.int .i64 q]∧(fs.take q).all (fun f=>namedB f.1)=true∧((fs.take q).map (·.1)).Nodup) fs.length rfl zm ⟨0,rfl,by omega,by simp (disch:=first|assumption|omega|rfl|decide) only [go_sem,seval,tys] <;> rfl,rfl,by simp⟩ ?_
  rintro m g _ ⟨q,rfl,hq,rfl,hall,hnd⟩
  by_cases hqf:q<fs.length
  ·obtain ⟨id2,off2,rfl,hid2,hf2,hfa,hfb⟩:=fld_at hr hqf
   have hfq:∀ j (hj:j<fs.length),cellAt h id2 (off2+j*2)=some (.string ⟨⟨(fs[j]).1⟩⟩):=fun j hj=>by
    obtain ⟨id3,off3,e, -, -,e3, -⟩:=fld_at hr hj
    injection e with e
    injection e with e1 e2
    subst e1;subst e2
    exact e3
   obtain ⟨f,hff⟩:∃ f,fs[q]=f:=⟨_,rfl⟩
   obtain ⟨s,ty⟩:=f
   rw [hff] at hf2 hfa hfb
   dsimp only at hf2 hfa hfb
   have htk:(fs.take (q+1))=fs.take q ++ [(s,ty)]:=by rw [List.take_succ_eq_append_getElem hqf,hff]
   cases hnm:namedB s
   ·have hno:flB fs=false:=flB_no hqf (by rw [hff];exact hnm)
    (repeat' first|refine zcd ?_|intro K' hK|(with_reducible refine zn hK ?_;clear hK)|((with_reducible apply o_callF (g:=137) w_none);(case ha=>exact ez0);(case hs=>exact rnamed_ev (hk:=hk) ..);(case' hk=>rintro _ h' n' ⟨rfl,rfl,rfl⟩))|((with_reducible first|apply zo1|apply zo2|apply o_guard rfl|apply x_cond|apply k_e1 rfl|apply k_e2 rfl|apply k_e0 rfl|apply k_e3 rfl|apply k_e4 rfl);(case he=>exact ez2 hfa hnm);(try case hok=>exact ezO);all_goals try (intro hb;(try simp only [hbs,reduceCtorEq] at hb);try exact ezX))|((with_reducible apply o_undef rfl);(case hb=>exact ez0)))
    all_goals exact sw_flat rfl rfl ⟨by rw [hno];rfl,rfl,rfl⟩
   ·(repeat' first|refine zcd ?_|intro K' hK|(with_reducible refine zn hK ?_;clear hK)|((with_reducible apply o_callF (g:=137) w_none);(case ha=>exact ez0);(case hs=>exact rnamed_ev (hk:=hk) ..);(case' hk=>rintro _ h' n' ⟨rfl,rfl,rfl⟩))|((with_reducible first|apply zo1|apply zo2|apply o_guard rfl|apply x_cond|apply k_e1 rfl|apply k_e2 rfl|apply k_e0 rfl|apply k_e3 rfl|apply k_e4 rfl);(case he=>exact ez2 hfa hnm);(try case hok=>exact ezO);all_goals try (intro hb;(try simp only [hbs,reduceCtorEq] at hb);try exact ezX))|((with_reducible apply o_undef rfl);(case hb=>exact ez0)))
    refine x_loopF [4,6,24,25,26,27,28,29,30,31,32,33,34,35,36,37,38,39] [6] (fun m vs=>∃ j:Nat,m=q - j∧j≤q∧vs=[.int .i64 j]∧s ∉ (fs.take j).map (·.1)) q rfl zm ⟨0,rfl,by omega,by simp (disch:=first|assumption|omega|rfl|decide) only [go_sem,seval,tys] <;> rfl,by simp⟩ ?_
    rintro m g2 _ ⟨j,rfl,hj,rfl,hni⟩
    by_cases hjq:j<q
    ·have hfj:=hfq j zm
     cases hst:decide ((fs[j]'zm).1=s)
     ·have hst':=of_decide_eq_false hst
      (repeat' first|refine zcd ?_|intro K' hK|(with_reducible refine zn hK ?_;clear hK)|(with_reducible refine x_drawnD (id:=11) [(4,9)] kz fun K' hK=>?_)|((with_reducible apply d_nil);(case hp=>exact ezP);(case' hx=>(refine hK _ _ _ ?_;clear hK)))|((with_reducible apply d_pure w_none);(case hp=>exact rfl);(case hc=>exact rfl);(case he=>exact ez4 hfa hfj hst @b_strq))|((with_reducible apply d_eff w_none);(case hc=>exact rfl);(case he=>exact ez4 hfa hfj hst @b_strq);(case hok=>exact ezO))|((with_reducible apply d_guard rfl);(case hb=>exact ez4 hfa hfj hst @b_strq);(case' h1=>intro hb;(try simp only [hbs,reduceCtorEq] at hb);try exact ezX);(case' h2=>intro hb;(try simp only [hbs,reduceCtorEq] at hb);try exact ezX))|((with_reducible first|apply zo1|apply zo2|apply o_guard rfl|apply x_cond|apply k_e1 rfl|apply k_e2 rfl|apply k_e0 rfl|apply k_e3 rfl|apply k_e4 rfl);(case he=>exact ez4 hfa hfj hst @b_strq);(try case hok=>exact ezO);all_goals try (intro hb;(try simp only [hbs,reduceCtorEq] at hb);try exact ezX))|((with_reducible apply o_undef rfl);(case hb=>exact ez0)))
      refine k_round (q - (j+1)) zm ⟨⟨rfl,rfl⟩,j+1,rfl,by omega,by simp (disch:=first|assumption|omega|rfl|decide) only [go_sem,seval,tys] <;> rfl,?_⟩
      rw [List.take_succ_eq_append_getElem zm,List.map_append,List.mem_append]
      rintro (hh|hh)
      ·exact hni hh
      ·simp at hh;exact hst' hh.symm
     ·have hno:flB fs=false:=flB_dup hqf hjq (by rw [hff];exact of_decide_eq_true hst)
      (repeat' first|refine zcd ?_|intro K' hK|(with_reducible refine zn hK ?_;clear hK)|(with_reducible refine x_drawnD (id:=11) [(4,9)] kz fun K' hK=>?_)|((with_reducible apply d_nil);(case hp=>exact ezP);(case' hx=>(refine hK _ _ _ ?_;clear hK)))|((with_reducible apply d_pure w_none);(case hp=>exact rfl);(case hc=>exact rfl);(case he=>exact ez4 hfa hfj hst @b_strq))|((with_reducible apply d_eff w_none);(case hc=>exact rfl);(case he=>exact ez4 hfa hfj hst @b_strq);(case hok=>exact ezO))|((with_reducible apply d_guard rfl);(case hb=>exact ez4 hfa hfj hst @b_strq);(case' h1=>intro hb;(try simp only [hbs,reduceCtorEq] at hb);try exact ezX);(case' h2=>intro hb;(try simp only [hbs,reduceCtorEq] at hb);try exact ezX))|((with_reducible first|apply zo1|apply zo2|apply o_guard rfl|apply x_cond|apply k_e1 rfl|apply k_e2 rfl|apply k_e0 rfl|apply k_e3 rfl|apply k_e4 rfl);(case he=>exact ez4 hfa hfj hst @b_strq);(try case hok=>exact ezO);all_goals try (intro hb;(try simp only [hbs,reduceCtorEq] at hb);try exact ezX))|((with_reducible apply o_undef rfl);(case hb=>exact ez0)))
      all_goals exact sw_flat rfl rfl ⟨by rw [hno];rfl,rfl,rfl⟩
    ·obtain rfl:j=q:=by omega
     (repeat' first|refine zcd ?_|intro K' hK|(with_reducible refine zn hK ?_;clear hK)|fail|((with_reducible first|apply zo1|apply zo2|apply o_guard rfl|apply x_cond|apply k_e1 rfl|apply k_e2 rfl|apply k_e0 rfl|apply k_e3 rfl|apply k_e4 rfl);(case he=>exact ez0);(try case hok=>exact ezO);all_goals try (intro hb;(try simp only [hbs,reduceCtorEq] at hb);try exact ezX))|((with_reducible apply o_undef rfl);(case hb=>exact ez0)))
     refine k_round (fs.length - (j+1)) zm ⟨⟨rfl,rfl⟩,j+1,rfl,by omega,by simp (disch:=first|assumption|omega|rfl|decide) only [go_sem,seval,tys] <;> rfl,?_,?_⟩
     ·rw [htk,List.all_append,hall]
      simp [hnm]
     ·rw [htk,List.map_append,List.nodup_append]
      refine ⟨hnd,by simp,?_⟩
      intro a ha b hb
      simp at hb
      subst hb
      intro e
      exact hni (e ▸ ha)
  ·obtain rfl:q=fs.length:=by omega
   rw [List.take_length] at hall hnd
   (repeat' first|refine zcd ?_|intro K' hK|(with_reducible refine zn hK ?_;clear hK)|fail|((with_reducible first|apply zo1|apply zo2|apply o_guard rfl|apply x_cond|apply k_e1 rfl|apply k_e2 rfl|apply k_e0 rfl|apply k_e3 rfl|apply k_e4 rfl);(case he=>exact ez0);(try case hok=>exact ezO);all_goals try (intro hb;(try simp only [hbs,reduceCtorEq] at hb);try exact ezX))|((with_reducible apply o_undef rfl);(case hb=>exact ez0)))
   all_goals exact sw_flat rfl rfl ⟨by congr 1;unfold flB;rw [hall,decide_eq_true hnd];rfl,rfl,rfl⟩
 ·rw [decide_eq_false h8]
  (repeat' first|refine zcd ?_|intro K' hK|(with_reducible refine zn hK ?_;clear hK)|fail|((with_reducible first|apply zo1|apply zo2|apply o_guard rfl|apply x_cond|apply k_e1 rfl|apply k_e2 rfl|apply k_e0 rfl|apply k_e3 rfl|apply k_e4 rfl);(case he=>exact ez0);(try case hok=>exact ezO);all_goals try (intro hb;(try simp only [hbs,reduceCtorEq] at hb);try exact ezX))|((with_reducible apply o_undef rfl);(case hb=>exact ez0)))
  all_goals exact sw_flat rfl rfl ⟨rfl,rfl,rfl⟩
end
section
open Go.RowKit
variable (k d cl:Nat) (h:Hp) (n:Nat)
theorem rfine_a (hk:30000≤k) (A:Option Addr) (T:List Tp) (c:Nat) (hT:TabH h n A T) (i:Nat) (hi:i<T.length) (hl:T.length≤100) (h5:T[i].kd≠5) :
  SQ k (d+4) cl 130 [.slice A T.length c,.int .i64 i] h n fun v h' n'=>v = .bool (fineB T.length i T[i])∧h'=h∧n'=n:=by
 obtain ⟨id,off,rfl,hid,ht4,ht0,ht1,ht2,ht3⟩:=hT.at_ hi
 have hfd:=hT.fd _ (List.getElem_mem hi)
 have hbd:=hT.bd _ (List.getElem_mem hi)
 obtain ⟨t,htt⟩:∃ t,T[i]=t:=⟨_,rfl⟩
 rw [htt] at h5 ht4 ht0 ht1 ht2 ht3 hfd hbd ⊢
 obtain ⟨kd,el,ln,fs,FA,fc⟩:=t
 dsimp only at h5 ht4 ht0 ht1 ht2 ht3 hfd
 refine enter Try.func130 kz rfl kz rfl rfl rfl ?_
 by_cases h123:kd=1∨kd=2∨kd=3
 ·have hf:=@fineB_123 T.length i ⟨kd,el,ln,fs,FA,fc⟩ h123
  dsimp only at hf
  rcases h123 with rfl|rfl|rfl
  all_goals
   (repeat' first|refine zcd ?_|intro K' hK|(with_reducible refine zn hK ?_;clear hK)|fail|((with_reducible first|apply zo1|apply zo2|apply o_guard rfl|apply x_cond|apply k_e1 rfl|apply k_e2 rfl|apply k_e0 rfl|apply k_e3 rfl|apply k_e4 rfl);(case he=>exact ez1 ht4);(try case hok=>exact ezO);all_goals try (intro hb;(try simp only [hbs,reduceCtorEq] at hb);try exact ezX))|((with_reducible apply o_undef rfl);(case hb=>exact ez0)))
   all_goals exact sw_flat rfl rfl ⟨by rw [hf];congr 1;rw [Bool.eq_iff_iff];simp only [decide_eq_true_eq,Bool.and_eq_true,List.all_cons,List.all_nil,Bool.and_true,beq_iff_eq];(try simp only [Bool.false_eq_true,false_iff,iff_false]);omega,rfl,rfl⟩
 ·by_cases h47:kd=4∨kd=7
  ·have hf:=@fineB_47 T.length i ⟨kd,el,ln,fs,FA,fc⟩ h47
   dsimp only at hf
   rcases h47 with rfl|rfl
   all_goals
    (repeat' first|refine zcd ?_|intro K' hK|(with_reducible refine zn hK ?_;clear hK)|fail|((with_reducible first|apply zo1|apply zo2|apply o_guard rfl|apply x_cond|apply k_e1 rfl|apply k_e2 rfl|apply k_e0 rfl|apply k_e3 rfl|apply k_e4 rfl);(case he=>exact ez1 ht4);(try case hok=>exact ezO);all_goals try (intro hb;(try simp only [hbs,reduceCtorEq] at hb);try exact ezX))|((with_reducible apply o_undef rfl);(case hb=>exact ez0)))
    all_goals exact sw_flat rfl rfl ⟨by rw [hf];congr 1;rw [Bool.eq_iff_iff];simp only [decide_eq_true_eq,Bool.and_eq_true,List.all_cons,List.all_nil,Bool.and_true,beq_iff_eq];(try simp only [Bool.false_eq_true,false_iff,iff_false]);omega,rfl,rfl⟩
  ·by_cases h6:kd=6
   ·have hf:=@fineB_6 T.length i ⟨kd,el,ln,fs,FA,fc⟩ h6
    dsimp only at hf
    subst h6
    (repeat' first|refine zcd ?_|intro K' hK|(with_reducible refine zn hK ?_;clear hK)|fail|((with_reducible first|apply zo1|apply zo2|apply o_guard rfl|apply x_cond|apply k_e1 rfl|apply k_e2 rfl|apply k_e0 rfl|apply k_e3 rfl|apply k_e4 rfl);(case he=>exact ez1 ht4);(try case hok=>exact ezO);all_goals try (intro hb;(try simp only [hbs,reduceCtorEq] at hb);try exact ezX))|((with_reducible apply o_undef rfl);(case hb=>exact ez0)))
    all_goals exact sw_flat rfl rfl ⟨by rw [hf];congr 1;rw [Bool.eq_iff_iff];simp only [decide_eq_true_eq,Bool.and_eq_true,List.all_cons,List.all_nil,Bool.and_true,beq_iff_eq];(try simp only [Bool.false_eq_true,false_iff,iff_false]);omega,rfl,rfl⟩
   ·have hf:fineB T.length i ⟨kd,el,ln,fs,FA,fc⟩=false:=fineB_no (by dsimp only;omega)
    (repeat' first|refine zcd ?_|intro K' hK|(with_reducible refine zn hK ?_;clear hK)|fail|((with_reducible first|apply zo1|apply zo2|apply o_guard rfl|apply x_cond|apply k_e1 rfl|apply k_e2 rfl|apply k_e0 rfl|apply k_e3 rfl|apply k_e4 rfl);(case he=>exact ez1 ht4);(try case hok=>exact ezO);all_goals try (intro hb;(try simp only [hbs,reduceCtorEq] at hb);try exact ezX))|((with_reducible apply o_undef rfl);(case hb=>exact ez0)))
    all_goals exact sw_flat rfl rfl ⟨by rw [hf],rfl,rfl⟩
theorem rfine_b (hk:30000≤k) (A:Option Addr) (T:List Tp) (c:Nat) (hT:TabH h n A T) (i:Nat) (hi:i<T.length) (hl:T.length≤100) (hl2:T[i].fs.length≤20000) (h5:T[i].kd=5) :
  SQ k (d+4) cl 130 [.slice A T.length c,.int .i64 i] h n fun v h' n'=>v = .bool (fineB T.length i T[i])∧h'=h∧n'=n:=by
 obtain ⟨id,off,rfl,hid,ht4,ht0,ht1,ht2,ht3⟩:=hT.at_ hi
 have hfd:=hT.fd _ (List.getElem_mem hi)
 have hbd:=hT.bd _ (List.getElem_mem hi)
 obtain ⟨t,htt⟩:∃ t,T[i]=t:=⟨_,rfl⟩
 rw [htt] at h5 hl2 ht4 ht0 ht1 ht2 ht3 hfd hbd ⊢
 obtain ⟨kd,el,ln,fs,FA,fc⟩:=t
 dsimp only at h5 hl2 ht4 ht0 ht1 ht2 ht3 hfd
 subst h5
 have hf5:=@fineB_5 T.length i ⟨5,el,ln,fs,FA,fc⟩ rfl
 dsimp only at hf5
 rw [fldsB_eq] at hf5
 refine enter Try.func130 kz rfl kz rfl rfl rfl ?_
 (repeat' first|refine zcd ?_|intro K' hK|(with_reducible refine zn hK ?_;clear hK)|fail|((with_reducible first|apply zo1|apply zo2|apply o_guard rfl|apply x_cond|apply k_e1 rfl|apply k_e2 rfl|apply k_e0 rfl|apply k_e3 rfl|apply k_e4 rfl);(case he=>exact ez1 ht4);(try case hok=>exact ezO);all_goals try (intro hb;(try simp only [hbs,reduceCtorEq] at hb);try exact ezX))|((with_reducible apply o_undef rfl);(case hb=>exact ez0)))
 refine x_loopF [4,6,84,85,86,87,88,89,90,91,92,93,94,95,96,97,98,99,100,101,102,103,104,105,106,107] [6] (fun m vs=>∃ q:Nat,m=fs.length - q∧q≤fs.length∧vs=[.int .i64 q]∧(fs.take q).all (fun f=>decide (0≤f.2∧f.2<(i:Int)))=true) fs.length rfl zm ⟨0,rfl,by omega,by simp (disch:=first|assumption|omega|rfl|decide) only [go_sem,seval,tys] <;> rfl,rfl⟩ ?_
 rintro m g _ ⟨q,rfl,hq,rfl,hall⟩
 by_cases hqf:q<fs.length
 ·obtain ⟨id2,off2,rfl,hid2,hf2,hfa,hfb⟩:=fld_at hfd hqf
  obtain ⟨f,hff⟩:∃ f,fs[q]=f:=⟨_,rfl⟩
  obtain ⟨s,ty⟩:=f
  rw [hff] at hf2 hfa hfb
  dsimp only at hf2 hfa hfb
  have htk:(fs.take (q+1))=fs.take q ++ [(s,ty)]:=by rw [List.take_succ_eq_append_getElem hqf,hff]
  by_cases hw:0≤ty∧ty<(i:Int)
  ·(repeat' first|refine zcd ?_|intro K' hK|(with_reducible refine zn hK ?_;clear hK)|fail|((with_reducible first|apply zo1|apply zo2|apply o_guard rfl|apply x_cond|apply k_e1 rfl|apply k_e2 rfl|apply k_e0 rfl|apply k_e3 rfl|apply k_e4 rfl);(case he=>exact ez1 hfb);(try case hok=>exact ezO);all_goals try (intro hb;(try simp only [hbs,reduceCtorEq] at hb);try exact ezX))|((with_reducible apply o_undef rfl);(case hb=>exact ez0)))
   refine k_round (fs.length - (q+1)) zm ⟨⟨rfl,rfl⟩,q+1,rfl,by omega,by simp (disch:=first|assumption|omega|rfl|decide) only [go_sem,seval,tys] <;> rfl,?_⟩
   rw [htk,List.all_append,hall]
   simp [hw]
  ·have hno:fs.all (fun f=>decide (0≤f.2∧f.2<(i:Int)))=false:=by
    rw [List.all_eq_false]
    exact ⟨fs[q],List.getElem_mem _,by rw [hff];simpa using hw⟩
   (repeat' first|refine zcd ?_|intro K' hK|(with_reducible refine zn hK ?_;clear hK)|fail|((with_reducible first|apply zo1|apply zo2|apply o_guard rfl|apply x_cond|apply k_e1 rfl|apply k_e2 rfl|apply k_e0 rfl|apply k_e3 rfl|apply k_e4 rfl);(case he=>exact ez1 hfb);(try case hok=>exact ezO);all_goals try (intro hb;(try simp only [hbs,reduceCtorEq] at hb);try exact ezX))|((with_reducible apply o_undef rfl);(case hb=>exact ez0)))
   all_goals exact sw_flat rfl rfl ⟨by rw [hf5,hno];rfl,rfl,rfl⟩
 ·obtain rfl:q=fs.length:=by omega
  rw [List.take_length] at hall
  have hz:decide (el=0∧ln=0∧0<fs.length∧fs.length≤8)=(decide (el=0∧ln=0∧(0:Int)<fs.length) && decide (fs.length≤8)):=by
   rw [Bool.eq_iff_iff];simp only [decide_eq_true_eq,Bool.and_eq_true,List.all_cons,List.all_nil,Bool.and_true,beq_iff_eq];omega
  rw [hall,hz,Bool.true_and] at hf5
  cases hfl:flB fs
  all_goals
   rw [hfl] at hf5
   cases h8:decide (fs.length≤8)
   all_goals
    rw [h8] at hf5
    (repeat' first|refine zcd ?_|intro K' hK|(with_reducible refine zn hK ?_;clear hK)|((with_reducible apply o_callF (g:=135) w_none);(case ha=>exact ez0);(case hs=>((with_reducible apply rfields_ev (fs:=fs));(case hr=>exact ezD hfd);(all_goals omega)));(case' hk=>rintro _ h' n' ⟨rfl,rfl,rfl⟩))|((with_reducible first|apply zo1|apply zo2|apply o_guard rfl|apply x_cond|apply k_e1 rfl|apply k_e2 rfl|apply k_e0 rfl|apply k_e3 rfl|apply k_e4 rfl);(case he=>exact ez2 hfl h8);(try case hok=>exact ezO);all_goals try (intro hb;(try simp only [hbs,reduceCtorEq] at hb);try exact ezX))|((with_reducible apply o_undef rfl);(case hb=>exact ez0)))
    all_goals exact sw_flat rfl rfl ⟨by rw [hf5];first|rfl|(refine congrArg Value.bool ?_;rw [Bool.eq_iff_iff];simp only [decide_eq_true_eq,Bool.and_eq_true,Bool.false_eq_true,and_false,false_and,false_iff,iff_false,and_true,true_and,beq_iff_eq,iff_self,true_iff,iff_true];done)|(refine congrArg Value.bool ?_;rw [Bool.eq_iff_iff];simp only [decide_eq_true_eq,Bool.and_eq_true,Bool.false_eq_true,and_false,false_and,false_iff,iff_false,and_true,true_and,beq_iff_eq,iff_self,true_iff,iff_true];omega),rfl,rfl⟩
theorem rfine_ev (hk:30000≤k) (A:Option Addr) (T:List Tp) (c:Nat) (hT:TabH h n A T) (i:Nat) (hi:i<T.length) (hl:T.length≤100) (hl2:T[i].fs.length≤20000) :
  SQ k (d+4) cl 130 [.slice A T.length c,.int .i64 i] h n fun v h' n'=>v = .bool (fineB T.length i T[i])∧h'=h∧n'=n:=by
 by_cases h5:T[i].kd=5
 ·exact rfine_b k d cl h n hk A T c hT i hi hl hl2 h5
 ·exact rfine_a k d cl h n hk A T c hT i hi hl h5
end
end Go.Proofs.Ytcpkdjikembpnaa.Ce
