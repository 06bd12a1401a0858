/- Parts of the proof of ValueBack: Gf, Ks. No condition of its own. -/
import Derived.Test.YtcpkdjikembpnaaWaai
import Derived.Test.YtcpkdjikembpnaaWaan
import Derived.Test.YtcpkdjikembpnaaWaar
import Derived.Test.YtcpkdjikembpnaaWaat
set_option linter.unusedVariables false
set_option linter.unusedSimpArgs false
set_option maxRecDepth 1000000
set_option maxHeartbeats 4000000
namespace Go.Proofs.Ytcpkdjikembpnaa.Ce
section
open Go.RowKit
def sizT (T:List Tp) (x:Nat):Int:=((eRow 1048576 T).at_ (x:Int)).1
structure OkV (T:List Tp) (t:Nat):Prop where
 chk:ChkT T
 lt:t<T.length
 sm:∀ x:Nat,Rch T true t x→sizT T x≤256
theorem OkV.size {T:List Tp} {t:Nat} (h:OkV T t):szR 1048576 T t=(sizT T t,((eRow 1048576 T).at_ (t:Int)).2,0):=by
 have h1:=h.sm t .refl
 have h2:=h.lt
 unfold sizT at *
 unfold szR
 rw [if_pos h.chk,if_pos ⟨by omega,by omega⟩,if_neg zm]
theorem OkV.lead {T:List Tp} {t y:Nat} (h:OkV T t) (hy:(y:Int)∈leadsT true (T[t]'h.lt)):OkV T y:=by
 have hr:Rch T true t y:=.step .refl h.lt hy
 exact ⟨h.chk,hr.lt h.chk.2.1 h.lt,fun x hx=>h.sm x (hr.trans hx)⟩
theorem sizT_ok {T:List Tp} (hC:ChkT T) {t:Nat} (ht:t<T.length):EOk 1048576 ((eRow 1048576 T).at_ (t:Int)):=by
 have hE:=eRow_ok (C:=1048576) zm (by decide) hC.2.1 T.length (Nat.le_refl _)
 rw [List.take_length] at hE
 exact Ext.at_mem hE zm (by rw [eRow_length];omega)
theorem OkV.bnd {T:List Tp} {t:Nat} (h:OkV T t):0≤sizT T t∧sizT T t≤256:=⟨(sizT_ok h.chk h.lt).1,h.sm t .refl⟩
def prtT (t:Tp):List Int:=t.fs.map (·.2) ++ List.replicate t.ln.toNat t.el
def offsT (T:List Tp) (t:Tp):List Int:=if t.kd=5 then (layR 1048576 (eRow 1048576 T) t.fs).1 else (List.range t.ln.toNat).map fun (i:Nat)=>(i:Int)*sizT T t.el.toNat
theorem fine_ln {m i:Nat} {t:Tp} (h:fineB m i t=true) (h6:t.kd≠6):t.ln=0:=by
 unfold fineB at h
 repeat' split at h
 all_goals simp_all
variable (k d cl:Nat) (h:Hp) (n:Nat)
theorem vsize_ev (hk:30000≤k) (A:Option Addr) (T:List Tp) (c:Nat) (hT:TabH h n A T) (hS:∀ t∈T,t.fs.length≤20000) (hm:T.length≤9223372036854775807) (t:Nat) (ho:OkV T t) :
  SQ k (d+9) cl 84 [.slice A T.length c,.int .i64 t] h n fun v h' n'=>v = .int .i64 (sizT T t)∧h'=h∧n'=n:=by
 have q:=(lsize_ev k d n h n hk A T c hT hS hm t).mono (Φ':=fun v h' n'=>v = .tuple ⟨[.int .i64 (sizT T t),.int .i64 ((eRow 1048576 T).at_ (t:Int)).2,.int .i64 0]⟩∧h=h'∧n=n') fun _ _ _ hp=>⟨by rw [hp.1,ho.size],hp.2.1.symm,hp.2.2.symm⟩
 refine enter Try.func84 kz rfl kz rfl rfl rfl ?_
 (repeat' first|refine zcd ?_|intro K' hK|(with_reducible refine zn hK ?_;clear hK)|((with_reducible apply o_callF (g:=27) w_none);(case ha=>exact ez0);(case hs=>(exact q));(case' hk=>rintro _ h' n' ⟨rfl,rfl,rfl⟩))|((with_reducible first|apply zo1|apply zo2|apply o_guard rfl|apply x_cond|apply k_e1 rfl|apply k_e2 rfl|apply k_e0 rfl|apply k_e3 rfl|apply k_e4 rfl);(case he=>exact ez0);(try case hok=>exact ezO);all_goals try (intro hb;(try simp only [hbs,reduceCtorEq] at hb);try exact ezX))|((with_reducible apply o_undef rfl);(case hb=>exact ez0)))
 all_goals exact sw_flat rfl rfl ⟨rfl,rfl,rfl⟩
theorem vparts_none (hk:30000≤k) (t:Tp) (hf:t.fs=[]) (hl:t.ln=0) :
  SQ k (d+1) cl 70 [.agg ⟨[.int .u8 t.kd,.int .i64 t.el,.int .i64 t.ln,.slice t.A t.fs.length t.c]⟩] h n fun v h' n'=>v = .slice none 0 0∧h'=h∧n'=n:=by
 obtain ⟨kd,el,ln,fs,FA,fc⟩:=t
 dsimp only at hf hl ⊢
 subst hf
 subst hl
 refine enter Try.func70 kz rfl kz rfl rfl rfl ?_
 (repeat' first|refine zcd ?_|intro K' hK|(with_reducible refine zn hK ?_;clear hK)|(with_reducible refine x_turns ?_)|(with_reducible refine x_turn zm ?_)|(with_reducible refine k_turn ?_)|((with_reducible first|apply zo1|apply zo2|apply o_guard rfl|apply x_cond|apply k_e1 rfl|apply k_e2 rfl|apply k_e0 rfl|apply k_e3 rfl|apply k_e4 rfl);(case he=>exact ez0);(try case hok=>exact ezO);all_goals try (intro hb;(try simp only [hbs,reduceCtorEq] at hb);try exact ezX))|((with_reducible apply o_undef rfl);(case hb=>exact ez0)))
 all_goals exact sw_flat rfl rfl ⟨rfl,rfl,rfl⟩
theorem vparts_arr (hk:30000≤k) (t:Tp) (hf:t.fs=[]) (hl0:1≤t.ln) (hl1:t.ln≤16) :
  SQ k (d+1) cl 70 [.agg ⟨[.int .u8 t.kd,.int .i64 t.el,.int .i64 t.ln,.slice t.A t.fs.length t.c]⟩] h n fun v h' n'=>v = .slice (some ⟨n,0,none⟩) t.ln.toNat t.ln.toNat∧h'=h.set n (.row 3 false (iv (List.replicate t.ln.toNat t.el)))∧n'=n+1:=by
 obtain ⟨kd,el,ln,fs,FA,fc⟩:=t
 dsimp only at hf hl0 hl1 ⊢
 subst hf
 obtain ⟨m,rfl⟩:=Int.eq_ofNat_of_zero_le (show 0≤ln by omega)
 rw [Int.toNat_natCast]
 refine enter Try.func70 kz rfl kz rfl rfl rfl ?_
 (repeat' first|refine zcd ?_|intro K' hK|(with_reducible refine zn hK ?_;clear hK)|fail|((with_reducible first|apply zo1|apply zo2|apply o_guard rfl|apply x_cond|apply k_e1 rfl|apply k_e2 rfl|apply k_e0 rfl|apply k_e3 rfl|apply k_e4 rfl);(case he=>exact ez0);(try case hok=>exact ezO);all_goals try (intro hb;(try simp only [hbs,reduceCtorEq] at hb);try exact ezX))|((with_reducible apply o_undef rfl);(case hb=>exact ez0)))
 (with_reducible refine x_turns ?_)
 (with_reducible refine x_turn zm ?_)
 (repeat' first|refine zcd ?_|intro K' hK|(with_reducible refine zn hK ?_;clear hK)|fail|((with_reducible first|apply zo1|apply zo2|apply o_guard rfl|apply x_cond|apply k_e1 rfl|apply k_e2 rfl|apply k_e0 rfl|apply k_e3 rfl|apply k_e4 rfl);(case he=>exact ez0);(try case hok=>exact ezO);all_goals try (intro hb;(try simp only [hbs,reduceCtorEq] at hb);try exact ezX))|((with_reducible apply o_undef rfl);(case hb=>exact ez0)))
 refine x_loopV [3,21,22,23,24,25,26,27,28] [3,21] (fun r vs h5 n5=>∃ (q:Nat) (O:Value),r=m - q∧q≤m∧vs=[O,.int .i64 q]∧n+1≤n5∧rowOf h5 n=some (64,false,[.int .u8 kd,.int .i64 el,.int .i64 (m:Int),.slice FA 0 fc])∧OwnI (List.replicate q el) O h5 (n+1) n5) m rfl zm ?_ ?_
 ·exact ⟨0,.slice none 0 0,rfl,by omega,ez0,by omega,ez0,.inl ⟨rfl,rfl⟩⟩
 ·rintro r g _ h5 n5 ⟨q,O,rfl,hq,rfl,hn5,r1,hO⟩
  have f1:=cellAt_row (off:=1) r1
  by_cases hqm:q<m
  ·have hrep:List.replicate (q+1) el=List.replicate q el ++ [el]:=by rw [List.replicate_succ']
   have hll:(List.replicate q el).length=q:=List.length_replicate
   obtain ⟨acc,hacc⟩:∃ acc,List.replicate q el=acc:=⟨_,rfl⟩
   rw [hacc] at hO hrep hll
   rcases hO with ⟨hp0,rfl⟩|⟨hp0,id,j1,j2,rfl,q4⟩
   ·(repeat' first|refine zcd ?_|intro K' hK|(with_reducible refine zn hK ?_;clear hK)|((with_reducible apply o_ap0 (t:=99) apT99 w_none);(case hs=>exact ez0);(case hy=>exact ez0);(case hsrc=>exact src_row (rowOf_same _ _ _ _ _) rfl);(case hc=>exact rfl);(case hm=>omega);(case h0=>omega))|((with_reducible first|apply zo1|apply zo2|apply o_guard rfl|apply x_cond|apply k_e1 rfl|apply k_e2 rfl|apply k_e0 rfl|apply k_e3 rfl|apply k_e4 rfl);(case he=>exact ez1 f1);(try case hok=>exact ezO);all_goals try (intro hb;(try simp only [hbs,reduceCtorEq] at hb);try exact ezX))|((with_reducible apply o_undef rfl);(case hb=>exact ez0)))
    refine k_round (m - (q+1)) zm ⟨q+1,.slice (some ⟨n5+1,0,none⟩) 1 1,rfl,by omega,ez0,by omega,(by rw [rowOf_ne _ _ zm,rowOf_ne _ _ zm];exact r1),.inr ⟨by rw [hrep];simp,n5+1,by omega,by omega,by rw [hrep,hp0];rfl,by rw [hrep,hp0];exact rowOf_same _ _ _ _ _⟩⟩
   ·have w4:=rwOf_row q4
    have htw:(iv acc).take acc.length=iv acc:=List.take_of_length_le (by rw [iv_length];omega)
    (repeat' first|refine zcd ?_|intro K' hK|(with_reducible refine zn hK ?_;clear hK)|((with_reducible apply o_apR (t:=99) apT99 w_none);(case hs=>exact ez1 w4);(case hy=>exact ez1 w4);(case hsrc=>exact src_row (rowOf_same _ _ _ _ _) rfl);(case hr=>exact ez1 w4);(case hc=>exact rfl);(case hm=>omega);(case hli=>omega);(case hln=>omega);(case hcs=>rw [iv_length];omega))|((with_reducible first|apply zo1|apply zo2|apply o_guard rfl|apply x_cond|apply k_e1 rfl|apply k_e2 rfl|apply k_e0 rfl|apply k_e3 rfl|apply k_e4 rfl);(case he=>exact ez2 f1 w4);(try case hok=>exact ezO);all_goals try (intro hb;(try simp only [hbs,reduceCtorEq] at hb);try exact ezX))|((with_reducible apply o_undef rfl);(case hb=>exact ez0)))
    refine k_round (m - (q+1)) zm ⟨q+1,.slice (some ⟨n5+1,0,none⟩) (acc.length+1) (acc.length+1),rfl,by omega,ez0,by omega,(by rw [rowOf_ne _ _ zm,rowOf_ne _ _ zm,rowOf_ne _ _ zm];exact r1),.inr ⟨by rw [hrep];simp,n5+1,by omega,by omega,by rw [hrep,List.length_append];rfl,by rw [hrep,iv_app1];exact ez1 htw⟩⟩
  ·obtain rfl:q=m:=by omega
   rcases hO with ⟨hp0, -⟩|⟨hp0,id,j1,j2,rfl,q4⟩
   ·exact absurd hp0 (by simp;omega)
   ·(repeat' first|refine zcd ?_|intro K' hK|(with_reducible refine zn hK ?_;clear hK)|fail|((with_reducible first|apply zo1|apply zo2|apply o_guard rfl|apply x_cond|apply k_e1 rfl|apply k_e2 rfl|apply k_e0 rfl|apply k_e3 rfl|apply k_e4 rfl);(case he=>exact ez1 f1);(try case hok=>exact ezO);all_goals try (intro hb;(try simp only [hbs,reduceCtorEq] at hb);try exact ezX))|((with_reducible apply o_undef rfl);(case hb=>exact ez0)))
    rw [List.length_replicate]
    refine sw_row (m:=id) ezI rfl zm q4 (iv_idA _ _) ezR ?_
    exact ⟨rfl,rfl,rfl⟩
theorem vparts_fld (hk:30000≤k) (t:Tp) (hr:RdH h n t.A (fv t.fs)) (h0:t.fs≠[]) (hl:t.ln=0) (hl2:t.fs.length≤20000) :
  SQ k (d+1) cl 70 [.agg ⟨[.int .u8 t.kd,.int .i64 t.el,.int .i64 t.ln,.slice t.A t.fs.length t.c]⟩] h n fun v h' n'=>v = .slice (some ⟨n,0,none⟩) t.fs.length t.fs.length∧h'=h.set n (.row 3 false (iv (t.fs.map (·.2))))∧n'=n+1:=by
 obtain ⟨kd,el,ln,fs,FA,fc⟩:=t
 dsimp only at hr h0 hl hl2 ⊢
 subst hl
 have h0l:0<fs.length:=List.length_pos_iff.2 h0
 refine enter Try.func70 kz rfl kz rfl rfl rfl ?_
 (repeat' first|refine zcd ?_|intro K' hK|(with_reducible refine zn hK ?_;clear hK)|fail|((with_reducible first|apply zo1|apply zo2|apply o_guard rfl|apply x_cond|apply k_e1 rfl|apply k_e2 rfl|apply k_e0 rfl|apply k_e3 rfl|apply k_e4 rfl);(case he=>exact ez0);(try case hok=>exact ezO);all_goals try (intro hb;(try simp only [hbs,reduceCtorEq] at hb);try exact ezX))|((with_reducible apply o_undef rfl);(case hb=>exact ez0)))
 refine x_loopV [3,5,9,10,11,12,13,14,15,16,17,18] [3,9] (fun m vs h5 n5=>∃ (q:Nat) (O:Value),m=fs.length - q∧q≤fs.length∧vs=[O,.int .i64 q]∧n+1≤n5∧RdH h5 n FA (fv fs)∧rowOf h5 n=some (64,false,[.int .u8 kd,.int .i64 el,.int .i64 0,.slice FA fs.length fc])∧OwnI ((fs.take q).map (·.2)) O h5 (n+1) n5) fs.length rfl zm ?_ ?_
 ·exact ⟨0,.slice none 0 0,rfl,by omega,ez0,by omega,hr.set (Nat.le_refl _) _,ez0,.inl ⟨rfl,rfl⟩⟩
 ·rintro m g _ h5 n5 ⟨q,O,rfl,hq,rfl,hn5,r2,r1,hO⟩
  have f2:=cellAt_row (off:=2) r1
  by_cases hqf:q<fs.length
  ·obtain ⟨id2,off2,rfl,hid2,hfa, -, -⟩:=fld_at r2 hqf
   obtain ⟨nm,hnm⟩:∃ nm,(fs[q]).1=nm:=⟨_,rfl⟩
   obtain ⟨ty,hty⟩:∃ ty,(fs[q]).2=ty:=⟨_,rfl⟩
   rw [hnm,hty] at hfa
   have htk:(fs.take (q+1)).map (·.2)=(fs.take q).map (·.2) ++ [ty]:=by rw [List.take_succ_eq_append_getElem hqf,List.map_append,← hty];rfl
   have htl:((fs.take q).map (·.2)).length=q:=by rw [List.length_map,List.length_take];omega
   obtain ⟨acc,hacc⟩:∃ acc,(fs.take q).map (·.2)=acc:=⟨_,rfl⟩
   rw [hacc] at hO htk htl
   rcases hO with ⟨hp0,rfl⟩|⟨hp0,id,k1,k2,rfl,q4⟩
   ·(repeat' first|refine zcd ?_|intro K' hK|(with_reducible refine zn hK ?_;clear hK)|((with_reducible apply o_ap0 (t:=99) apT99 w_none);(case hs=>exact ez0);(case hy=>exact ez0);(case hsrc=>exact src_row (rowOf_same _ _ _ _ _) rfl);(case hc=>exact rfl);(case hm=>omega);(case h0=>omega))|((with_reducible first|apply zo1|apply zo2|apply o_guard rfl|apply x_cond|apply k_e1 rfl|apply k_e2 rfl|apply k_e0 rfl|apply k_e3 rfl|apply k_e4 rfl);(case he=>exact ez1 hfa);(try case hok=>exact ezO);all_goals try (intro hb;(try simp only [hbs,reduceCtorEq] at hb);try exact ezX))|((with_reducible apply o_undef rfl);(case hb=>exact ez0)))
    refine k_round (fs.length - (q+1)) zm ⟨q+1,.slice (some ⟨n5+1+1,0,none⟩) 1 1,rfl,by omega,ez0,by omega,(ezD r2),(by repeat' (first|exact r1|rw [rowOf_ne _ _ zm])),.inr ⟨by rw [htk];simp,n5+1+1,by omega,by omega,by rw [htk,hp0];rfl,by rw [htk,hp0];exact rowOf_same _ _ _ _ _⟩⟩
   ·have w4:=rwOf_row q4
    have htw:(iv acc).take acc.length=iv acc:=List.take_of_length_le (by rw [iv_length];omega)
    (repeat' first|refine zcd ?_|intro K' hK|(with_reducible refine zn hK ?_;clear hK)|((with_reducible apply o_apR (t:=99) apT99 w_none);(case hs=>exact ez1 w4);(case hy=>exact ez1 w4);(case hsrc=>exact src_row (rowOf_same _ _ _ _ _) rfl);(case hr=>exact ez1 w4);(case hc=>exact rfl);(case hm=>omega);(case hli=>omega);(case hln=>omega);(case hcs=>rw [iv_length];omega))|((with_reducible first|apply zo1|apply zo2|apply o_guard rfl|apply x_cond|apply k_e1 rfl|apply k_e2 rfl|apply k_e0 rfl|apply k_e3 rfl|apply k_e4 rfl);(case he=>exact ez2 hfa w4);(try case hok=>exact ezO);all_goals try (intro hb;(try simp only [hbs,reduceCtorEq] at hb);try exact ezX))|((with_reducible apply o_undef rfl);(case hb=>exact ez0)))
    refine k_round (fs.length - (q+1)) zm ⟨q+1,.slice (some ⟨n5+1+1,0,none⟩) (acc.length+1) (acc.length+1),rfl,by omega,ez0,by omega,(ezD r2),(by repeat' (first|exact r1|rw [rowOf_ne _ _ zm])),.inr ⟨by rw [htk];simp,n5+1+1,by omega,by omega,by rw [htk,List.length_append];rfl,by rw [htk,iv_app1];exact ez1 htw⟩⟩
  ·obtain rfl:q=fs.length:=by omega
   rw [List.take_length] at hO
   rcases hO with ⟨hp0, -⟩|⟨hp0,id,k1,k2,rfl,q4⟩
   ·exact absurd (List.map_eq_nil_iff.1 hp0) h0
   ·(repeat' first|refine zcd ?_|intro K' hK|(with_reducible refine zn hK ?_;clear hK)|fail|((with_reducible first|apply zo1|apply zo2|apply o_guard rfl|apply x_cond|apply k_e1 rfl|apply k_e2 rfl|apply k_e0 rfl|apply k_e3 rfl|apply k_e4 rfl);(case he=>exact ez1 f2);(try case hok=>exact ezO);all_goals try (intro hb;(try simp only [hbs,reduceCtorEq] at hb);try exact ezX))|((with_reducible apply o_undef rfl);(case hb=>exact ez0)))
    (with_reducible refine x_turns ?_)
    (with_reducible refine x_turn zm ?_)
    (repeat' first|refine zcd ?_|intro K' hK|(with_reducible refine zn hK ?_;clear hK)|fail|((with_reducible first|apply zo1|apply zo2|apply o_guard rfl|apply x_cond|apply k_e1 rfl|apply k_e2 rfl|apply k_e0 rfl|apply k_e3 rfl|apply k_e4 rfl);(case he=>exact ez1 f2);(try case hok=>exact ezO);all_goals try (intro hb;(try simp only [hbs,reduceCtorEq] at hb);try exact ezX))|((with_reducible apply o_undef rfl);(case hb=>exact ez0)))
    rw [List.length_map]
    refine sw_row (m:=id) ezI rfl zm q4 (iv_idA _ _) ezR ?_
    exact ⟨rfl,rfl,rfl⟩
theorem vparts_ev (hk:30000≤k) {m i:Nat} (t:Tp) (hf:fineB m i t=true) (hr:RdH h n t.A (fv t.fs)) :
  SQ k (d+1) cl 70 [.agg ⟨[.int .u8 t.kd,.int .i64 t.el,.int .i64 t.ln,.slice t.A t.fs.length t.c]⟩] h n (IntsV (prtT t) h n):=by
 by_cases h6:t.kd=6
 ·have hn:=fine_nofs hf zm
  obtain ⟨-, -,hl0,hl1⟩:=fine_arr hf h6
  have e:prtT t=List.replicate t.ln.toNat t.el:=by unfold prtT;rw [hn];rfl
  rw [e]
  refine (vparts_arr k d cl h n hk t hn hl0 hl1).mono fun _ _ _ hh=>.inr ⟨by simp;omega,?_⟩
  rw [List.length_replicate]
  exact hh
 ·have hl:=fine_ln hf h6
  have e:prtT t=t.fs.map (·.2):=by unfold prtT;rw [hl];simp
  rw [e]
  have hlen:=fine_len hf
  by_cases h0:t.fs=[]
  ·exact (vparts_none k d cl h n hk t h0 hl).mono fun _ _ _ hh=>.inl ⟨by rw [h0];rfl,hh⟩
  ·refine (vparts_fld k d cl h n hk t hr h0 hl zm).mono fun _ _ _ hh=>.inr ⟨by simpa using h0,?_⟩
   rw [List.length_map]
   exact hh
theorem fine_some0 {m i:Nat} {t:Tp} (h:fineB m i t=true) (h5:t.kd=5):0<t.fs.length:=by
 rw [fineB_5 h5] at h
 simp at h
 omega
theorem lead_fld {far:Bool} {T:List Tp} {i:Nat} {t:Tp} (h5:t.kd=5) {q:Nat} (hq:q<t.fs.length):(t.fs[q]).2∈leadsT far t:=by
 unfold leadsT
 rw [if_neg zm]
 exact List.mem_map_of_mem (List.getElem_mem hq)
theorem OkV.fld {T:List Tp} {i:Nat} (h:OkV T i) (h5:(T[i]'h.lt).kd=5):∀ f∈(T[i]'h.lt).fs,∃ y:Nat,f.2=(y:Int)∧y<i∧OkV T y:=fun f hf=>by
 obtain ⟨q,hq,e⟩:=List.getElem_of_mem hf
 have h1:=fine_fld (h.chk.2.1 i h.lt) hq
 obtain ⟨y,hy⟩:=Int.eq_ofNat_of_zero_le h1.1
 have h2:=lead_fld (far:=true) (T:=T) (i:=i) h5 hq
 rw [hy] at h1 h2
 exact ⟨y,by rw [← e,hy],by omega,h.lead h2⟩
theorem OkV.elm {T:List Tp} {i:Nat} (h:OkV T i) (h6:(T[i]'h.lt).kd=6):∃ y:Nat,(T[i]'h.lt).el=(y:Int)∧y<i∧OkV T y:=by
 have h1:=fine_arr (h.chk.2.1 i h.lt) h6
 obtain ⟨y,hy⟩:=Int.eq_ofNat_of_zero_le h1.1
 refine ⟨y,hy,by omega,h.lead ?_⟩
 rw [← hy]
 unfold leadsT
 rw [if_pos (.inl h6)]
 exact List.mem_singleton_self _
theorem OkV.ptr {T:List Tp} {i:Nat} (h:OkV T i) (h4:(T[i]'h.lt).kd=4∨(T[i]'h.lt).kd=7):∃ y:Nat,(T[i]'h.lt).el=(y:Int)∧OkV T y:=by
 have h1:=fine_el (h.chk.2.1 i h.lt) h4
 obtain ⟨y,hy⟩:=Int.eq_ofNat_of_zero_le h1.1
 refine ⟨y,hy,h.lead ?_⟩
 rw [← hy]
 unfold leadsT
 rw [if_pos (.inr ⟨rfl,h4⟩)]
 exact List.mem_singleton_self _
theorem voffs_fld (hk:30000≤k) (A:Option Addr) (T:List Tp) (c:Nat) (hT:TabH h n A T) (hS:∀ t∈T,t.fs.length≤20000) (hm:T.length≤9223372036854775807) (i:Nat) (ho:OkV T i) (t:Tp) (ht:T[i]'ho.lt=t) (h5:t.kd=5) :
  SQ k (d+10) cl 71 [.slice A T.length c,.agg ⟨[.int .u8 t.kd,.int .i64 t.el,.int .i64 t.ln,.slice t.A t.fs.length t.c]⟩] h n fun v h' n'=>v = .slice (some ⟨n,0,none⟩) t.fs.length t.fs.length∧h'=h.set n (.row 3 false (iv (offsT T t)))∧n'=n+1:=by
 have hfi:=ho.chk.2.1 i ho.lt
 have hfd:=hT.fd _ (List.getElem_mem ho.lt)
 have hfl:=ho.fld (by rw [ht];exact h5)
 rw [ht] at hfi hfd hfl
 have hlen:=fine_len hfi
 have e:offsT T t=(layR 1048576 (eRow 1048576 T) t.fs).1:=by unfold offsT;rw [if_pos h5]
 rw [e,h5]
 have q:=fun (h6:Hp) (n6:Nat) (hT6:TabH h6 n6 A T) (hr6:RdH h6 n6 t.A (fv t.fs))=>lofs_ok k (d+2) n h6 n6 hk A T c hT6 hS hm t.A t.fs t.c hr6 zm ho.chk zm (fun f hf=>by obtain ⟨y,e, -,hy⟩:=hfl f hf;have:=hy.lt;omega) (fun f hf=>by obtain ⟨y,e, -,hy⟩:=hfl f hf;rw [e];exact hy.bnd.2)
 refine enter Try.func71 kz rfl kz rfl rfl rfl ?_
 (repeat' first|refine zcd ?_|intro K' hK|(with_reducible refine zn hK ?_;clear hK)|((with_reducible apply o_callF (g:=102) w_none);(case ha=>exact ez0);(case hs=>((with_reducible apply q);(exact (hT.set (Nat.le_refl _) _).more zm);(exact (hfd.set (Nat.le_refl _) _).more zm)));(case' hk=>rintro _ h' n' ⟨rfl,rfl,rfl⟩))|((with_reducible first|apply zo1|apply zo2|apply o_guard rfl|apply x_cond|apply k_e1 rfl|apply k_e2 rfl|apply k_e0 rfl|apply k_e3 rfl|apply k_e4 rfl);(case he=>exact ez0);(try case hok=>exact ezO);all_goals try (intro hb;(try simp only [hbs,reduceCtorEq] at hb);try exact ezX))|((with_reducible apply o_undef rfl);(case hb=>exact ez0)))
 all_goals (refine sw_row ezI rfl zm (by simp (disch:=first|assumption|omega|rfl|decide) only [go_sem,seval,tys];exact rfl) (iv_idA _ _) ezR ?_;exact ⟨rfl,rfl,rfl⟩)
theorem voffs_none (hk:30000≤k) (A:Option Addr) (T:List Tp) (c:Nat) (hT:TabH h n A T) (hS:∀ t∈T,t.fs.length≤20000) (hm:T.length≤9223372036854775807) (t:Tp) (h5:t.kd≠5) (hl:t.ln=0) :
  SQ k (d+10) cl 71 [.slice A T.length c,.agg ⟨[.int .u8 t.kd,.int .i64 t.el,.int .i64 t.ln,.slice t.A t.fs.length t.c]⟩] h n fun v h' n'=>v = .slice none 0 0∧h'=h∧n'=n:=by
 obtain ⟨kd,el,ln,fs,FA,fc⟩:=t
 dsimp only at h5 hl ⊢
 subst hl
 refine enter Try.func71 kz rfl kz rfl rfl rfl ?_
 (repeat' first|refine zcd ?_|intro K' hK|(with_reducible refine zn hK ?_;clear hK)|(with_reducible refine x_turns ?_)|(with_reducible refine x_turn zm ?_)|(with_reducible refine k_turn ?_)|((with_reducible first|apply zo1|apply zo2|apply o_guard rfl|apply x_cond|apply k_e1 rfl|apply k_e2 rfl|apply k_e0 rfl|apply k_e3 rfl|apply k_e4 rfl);(case he=>exact ez0);(try case hok=>exact ezO);all_goals try (intro hb;(try simp only [hbs,reduceCtorEq] at hb);try exact ezX))|((with_reducible apply o_undef rfl);(case hb=>exact ez0)))
 all_goals exact sw_flat rfl rfl ⟨rfl,rfl,rfl⟩
theorem voffs_arr (hk:30000≤k) (A:Option Addr) (T:List Tp) (c:Nat) (hT:TabH h n A T) (hS:∀ t∈T,t.fs.length≤20000) (hm:T.length≤9223372036854775807) (t:Tp) (h6:t.kd=6) (hl0:1≤t.ln) (hl1:t.ln≤16) (y:Nat) (hy:t.el=(y:Int)) (ho:OkV T y) :
  SQ k (d+10) cl 71 [.slice A T.length c,.agg ⟨[.int .u8 t.kd,.int .i64 t.el,.int .i64 t.ln,.slice t.A t.fs.length t.c]⟩] h n fun v h' n'=>v = .slice (some ⟨n,0,none⟩) t.ln.toNat t.ln.toNat∧h'=h.set n (.row 3 false (iv (offsT T t)))∧n'=n+1:=by
 have e:offsT T t=(List.range t.ln.toNat).map fun (i:Nat)=>(i:Int)*sizT T y:=by unfold offsT;rw [if_neg zm,hy,Int.toNat_natCast]
 rw [e]
 obtain ⟨kd,el,ln,fs,FA,fc⟩:=t
 dsimp only at h6 hl0 hl1 hy ⊢
 subst h6
 subst hy
 obtain ⟨m,rfl⟩:=Int.eq_ofNat_of_zero_le (show 0≤ln by omega)
 rw [Int.toNat_natCast]
 obtain ⟨z,hz⟩:∃ z,sizT T y=z:=⟨_,rfl⟩
 have hzb:=ho.bnd
 rw [hz] at hzb
 have q:=fun (h6:Hp) (n6:Nat) (hT6:TabH h6 n6 A T)=>(vsize_ev k d n h6 n6 hk A T c hT6 hS hm y ho).mono (Φ':=fun v h' n'=>v = .int .i64 z∧h6=h'∧n6=n') fun _ _ _ hp=>⟨by rw [hp.1,hz],hp.2.1.symm,hp.2.2.symm⟩
 simp only [hz]
 refine enter Try.func71 kz rfl kz rfl rfl rfl ?_
 (repeat' first|refine zcd ?_|intro K' hK|(with_reducible refine zn hK ?_;clear hK)|fail|((with_reducible first|apply zo1|apply zo2|apply o_guard rfl|apply x_cond|apply k_e1 rfl|apply k_e2 rfl|apply k_e0 rfl|apply k_e3 rfl|apply k_e4 rfl);(case he=>exact ez0);(try case hok=>exact ezO);all_goals try (intro hb;(try simp only [hbs,reduceCtorEq] at hb);try exact ezX))|((with_reducible apply o_undef rfl);(case hb=>exact ez0)))
 refine x_loopV [9,10,26,27,28,29,30,31,32,33,34,35,36,37,38] [9,26] (fun r vs h5 n5=>∃ (q:Nat) (O:Value),r=m - q∧q≤m∧vs=[O,.int .i64 q]∧n+1≤n5∧TabH h5 n A T∧rowOf h5 n=some (64,false,[.int .u8 6,.int .i64 (y:Int),.int .i64 (m:Int),.slice FA fs.length fc])∧OwnI ((List.range q).map fun (i:Nat)=>(i:Int)*z) O h5 (n+1) n5) m rfl zm ?_ ?_
 ·exact ⟨0,.slice none 0 0,rfl,by omega,ez0,by omega,hT.set (Nat.le_refl _) _,ez0,.inl ⟨rfl,rfl⟩⟩
 ·rintro r g _ h5 n5 ⟨q',O,rfl,hq,rfl,hn5,hT5,r1,hO⟩
  have f1:=cellAt_row (off:=1) r1
  by_cases hqm:q'<m
  ·have hmu:0≤(q':Int)*z∧(q':Int)*z≤16*256:=⟨Int.mul_nonneg zm hzb.1,Int.mul_le_mul zm hzb.2 hzb.1 zm⟩
   have hrep:(List.range (q'+1)).map (fun (i:Nat)=>(i:Int)*z)=(List.range q').map (fun (i:Nat)=>(i:Int)*z) ++ [(q':Int)*z]:=by rw [List.range_succ,List.map_append];rfl
   have hll:((List.range q').map (fun (i:Nat)=>(i:Int)*z)).length=q':=by rw [List.length_map,List.length_range]
   obtain ⟨acc,hacc⟩:∃ acc,(List.range q').map (fun (i:Nat)=>(i:Int)*z)=acc:=⟨_,rfl⟩
   rw [hacc] at hO hrep hll
   obtain ⟨qz,hqz⟩:∃ qz,(q':Int)*z=qz:=⟨_,rfl⟩
   rw [hqz] at hmu hrep
   rcases hO with ⟨hp0,rfl⟩|⟨hp0,id,j1,j2,rfl,q4⟩
   ·(repeat' first|refine zcd ?_|intro K' hK|(with_reducible refine zn hK ?_;clear hK)|((with_reducible apply o_callF (g:=84) w_none);(case ha=>exact ez0);(case hs=>((with_reducible apply q);(exact hT5.more zm)));(case' hk=>rintro _ h' n' ⟨rfl,rfl,rfl⟩))|((with_reducible apply o_ap0 (t:=99) apT99 w_none);(case hs=>exact ez0);(case hy=>exact ez0);(case hsrc=>exact src_row (rowOf_same _ _ _ _ _) rfl);(case hc=>exact rfl);(case hm=>omega);(case h0=>omega))|((with_reducible first|apply zo1|apply zo2|apply o_guard rfl|apply x_cond|apply k_e1 rfl|apply k_e2 rfl|apply k_e0 rfl|apply k_e3 rfl|apply k_e4 rfl);(case he=>exact ez2 f1 hqz);(try case hok=>exact ezO);all_goals try (intro hb;(try simp only [hbs,reduceCtorEq] at hb);try exact ezX))|((with_reducible apply o_undef rfl);(case hb=>exact ez0)))
    refine k_round (m - (q'+1)) zm ⟨q'+1,.slice (some ⟨n5+1,0,none⟩) 1 1,rfl,by omega,ez0,by omega,(ezT hT5),(by repeat' (first|exact r1|rw [rowOf_ne _ _ zm])),.inr ⟨by rw [hrep];simp,n5+1,by omega,by omega,by rw [hrep,hp0];rfl,by rw [hrep,hp0];exact rowOf_same _ _ _ _ _⟩⟩
   ·have w4:=rwOf_row q4
    have htw:(iv acc).take acc.length=iv acc:=List.take_of_length_le (by rw [iv_length];omega)
    (repeat' first|refine zcd ?_|intro K' hK|(with_reducible refine zn hK ?_;clear hK)|((with_reducible apply o_callF (g:=84) w_none);(case ha=>exact ez0);(case hs=>((with_reducible apply q);(exact hT5.more zm)));(case' hk=>rintro _ h' n' ⟨rfl,rfl,rfl⟩))|((with_reducible apply o_apR (t:=99) apT99 w_none);(case hs=>exact ez1 w4);(case hy=>exact ez1 w4);(case hsrc=>exact src_row (rowOf_same _ _ _ _ _) rfl);(case hr=>exact ez1 w4);(case hc=>exact rfl);(case hm=>omega);(case hli=>omega);(case hln=>omega);(case hcs=>rw [iv_length];omega))|((with_reducible first|apply zo1|apply zo2|apply o_guard rfl|apply x_cond|apply k_e1 rfl|apply k_e2 rfl|apply k_e0 rfl|apply k_e3 rfl|apply k_e4 rfl);(case he=>exact ez3 f1 hqz w4);(try case hok=>exact ezO);all_goals try (intro hb;(try simp only [hbs,reduceCtorEq] at hb);try exact ezX))|((with_reducible apply o_undef rfl);(case hb=>exact ez0)))
    refine k_round (m - (q'+1)) zm ⟨q'+1,.slice (some ⟨n5+1,0,none⟩) (acc.length+1) (acc.length+1),rfl,by omega,ez0,by omega,(ezT hT5),(by repeat' (first|exact r1|rw [rowOf_ne _ _ zm])),.inr ⟨by rw [hrep];simp,n5+1,by omega,by omega,by rw [hrep,List.length_append];rfl,by rw [hrep,iv_app1];exact ez1 htw⟩⟩
  ·obtain rfl:q'=m:=by omega
   rcases hO with ⟨hp0, -⟩|⟨hp0,id,j1,j2,rfl,q4⟩
   ·exact absurd hp0 (by simp;omega)
   ·(repeat' first|refine zcd ?_|intro K' hK|(with_reducible refine zn hK ?_;clear hK)|fail|((with_reducible first|apply zo1|apply zo2|apply o_guard rfl|apply x_cond|apply k_e1 rfl|apply k_e2 rfl|apply k_e0 rfl|apply k_e3 rfl|apply k_e4 rfl);(case he=>exact ez1 f1);(try case hok=>exact ezO);all_goals try (intro hb;(try simp only [hbs,reduceCtorEq] at hb);try exact ezX))|((with_reducible apply o_undef rfl);(case hb=>exact ez0)))
    rw [List.length_map,List.length_range]
    refine sw_row (m:=id) ezI rfl zm q4 (iv_idA _ _) ezR ?_
    exact ⟨rfl,rfl,rfl⟩
theorem offsT_len {T:List Tp} {t:Tp} (h5:t.kd=5):(offsT T t).length=t.fs.length:=by
 unfold offsT
 rw [if_pos h5]
 have:=layR_len 1048576 (eRow 1048576 T) t.fs t.fs.length (Nat.le_refl _)
 rwa [List.take_length] at this
theorem voffs_ev (hk:30000≤k) (A:Option Addr) (T:List Tp) (c:Nat) (hT:TabH h n A T) (hS:∀ t∈T,t.fs.length≤20000) (hm:T.length≤9223372036854775807) (i:Nat) (ho:OkV T i) (t:Tp) (ht:T[i]'ho.lt=t) :
  SQ k (d+10) cl 71 [.slice A T.length c,.agg ⟨[.int .u8 t.kd,.int .i64 t.el,.int .i64 t.ln,.slice t.A t.fs.length t.c]⟩] h n (IntsV (offsT T t) h n):=by
 have hfi:=ho.chk.2.1 i ho.lt
 rw [ht] at hfi
 by_cases h5:t.kd=5
 ·have hfs:t.fs≠[]:=fun e=>by
   have:=fine_some0 hfi h5
   rw [e] at this
   exact absurd this (by simp)
  refine (voffs_fld k d cl h n hk A T c hT hS hm i ho t ht h5).mono fun _ _ _ hh=>.inr ⟨fun e=>hfs (List.length_eq_zero_iff.1 (by rw [← offsT_len (T:=T) h5,e];rfl)),?_⟩
  rw [offsT_len h5]
  exact hh
 ·by_cases h6:t.kd=6
  ·obtain ⟨y,hy, -,hoy⟩:=ho.elm (by rw [ht];exact h6)
   rw [ht] at hy
   obtain ⟨-, -,hl0,hl1⟩:=fine_arr hfi h6
   have hlen:(offsT T t).length=t.ln.toNat:=by unfold offsT;rw [if_neg h5,List.length_map,List.length_range]
   refine (voffs_arr k d cl h n hk A T c hT hS hm t h6 hl0 hl1 y hy hoy).mono fun _ _ _ hh=>.inr ⟨fun e=>by rw [e] at hlen;simp at hlen;omega,?_⟩
   rw [hlen]
   exact hh
  ·have hl:=fine_ln hfi h6
   exact (voffs_none k d cl h n hk A T c hT hS hm t h5 hl).mono fun _ _ _ hh=>.inl ⟨by unfold offsT;rw [if_neg h5,hl];rfl,hh⟩
end
section
open Go.RowKit
section
variable {P:Program} {F:CallE} {h:Hp} {n:Nat} {Φ:Value→Hp→Nat→Prop}
theorem reN_two {m1 m2:Nat} (hne:m1≠m2):reN n [m1,m2] m2=n+1:=by
 unfold reN
 rw [show Nat.beq m1 m2=false from by rw [Bool.eq_false_iff];intro hh;exact hne (Nat.eq_of_beq_eq_true hh)]
 unfold reN
 rw [Nat.beq_refl]
 rfl
theorem reN_one {m1:Nat} {l:List Nat}:reN n (m1 :: l) m1=n:=by
 unfold reN
 rw [Nat.beq_refl]
 rfl
theorem sw_row2 {v v':Value} {h':Hp} {n' m1 m2 e1 e2:Nat} {ro1 ro2:Bool} {cs1 cs2:List Value} (hv:idV n v=[m1,m2]) (hne:m1≠m2) (hn:noFn v=true) (h1:m1<n') (h2:m2<n') (g1:rowOf h' m1=some (e1,ro1,cs1)) (g2:rowOf h' m2=some (e2,ro2,cs2))
  (c1:∀ v∈cs1,idA n v=[]) (c2:∀ v∈cs2,idA n v=[]) (hre:reV n [m1,m2] v=v') (hk:Φ v' ((h.set n (.row e1 ro1 cs1)).set (n+1) (.row e2 ro2 cs2)) (n+1+1)):kSweep h n Φ v h' n':=by
 have g1':h'.get m1 = .row e1 ro1 cs1:=rowOf_some g1
 have g2':h'.get m2 = .row e2 ro2 cs2:=rowOf_some g2
 have p1:plainO n (AObj.row e1 ro1 cs1)=true:=by
  show cs1.all (fun v=>(idA n v).isEmpty)=true
  rw [List.all_eq_true]
  intro v hv
  rw [c1 v hv]
  rfl
 have p2:plainO n (AObj.row e2 ro2 cs2)=true:=by
  show cs2.all (fun v=>(idA n v).isEmpty)=true
  rw [List.all_eq_true]
  intro v hv
  rw [c2 v hv]
  rfl
 have b1:Nat.blt m1 n'=true:=by rw [Nat.blt_eq];exact h1
 have b2:Nat.blt m2 n'=true:=by rw [Nat.blt_eq];exact h2
 have ho:once [m1,m2]=[m1,m2]:=by simp [once,hne]
 have e:sweep h n (v,h',n')=(v',(h.set n (.row e1 ro1 cs1)).set (n+1) (.row e2 ro2 cs2),n+1+1):=by
  unfold sweep
  dsimp only
  rw [hv,hn,ho]
  simp only [List.all_cons,List.all_nil,b1,b2,g1',g2',p1,p2,Bool.and_true,cond_true,hre]
  simp [g1',g2']
 unfold kSweep
 rw [e]
 exact hk
end
end
end Go.Proofs.Ytcpkdjikembpnaa.Ce
