/- The law ValueBack holds for every input: it returns true, and its arguments read as before. No condition. -/
import Derived.Test.YtcpkdjikembpnaaRows
import Derived.Test.YtcpkdjikembpnaaWabi
import Derived.Test.YtcpkdjikembpnaaWabj
import Derived.Test.YtcpkdjikembpnaaWabn
namespace Go.Proofs.Ytcpkdjikembpnaa.valueBackDone
open Go.Proofs.Ytcpkdjikembpnaa Go.Proofs.Ytcpkdjikembpnaa.Ce
open Go.ChangeShapes Go.WideShapes Go.ChangeAt Go.RowKit
set_option linter.unusedVariables false
set_option linter.unusedSimpArgs false
theorem own:ownKnob Try.prog.godebug=none:=by kernel_rfl
theorem laidOut:laidOutB Try.prog=true:=by kernel_rfl
set_option maxHeartbeats 4000000 in
set_option maxRecDepth 100000 in
theorem lifted (os:Os) (started:os.Started) (H:Type) (enc:TypeId × Value→H) :
  ReturnsInHanded {} Try.checked os 5 .any (Rows.valueBackSpec.pre6 enc Try.prog Try.f5 Rows.valueBackRow.domain false) (Rows.valueBackSpec.post enc Try.prog Try.f5 false true false false):=by
 refine returnsInHanded_of_change (C:=Try.checked) own started kz Try.func5
  (ChangeSpec.witness6 (enc:=enc) (C:=Try.checked) false ⟨#[],#[.slice none 0 0,.agg #[.int .u64 0,.slice none 0 0],.int .i64 0,.int .i64 0,.agg #[.int .u8 0,.int .i64 0,.string ⟨#[]⟩,.slice none 0 0,.bool false],.int .i64 0],[]⟩ 8 kz kz kz kz) ?_
 intro W base args ds gs before hval0 hW hcnd _
 have hval:∀ (j:Nat) t v,Try.f5.params[j]?=some t→args[j]?=some v→Value.okWide Try.prog W .any base t v:=hval0
 have hW':=hW
 obtain ⟨p,q,hA0,hV,rfl,hfz,hnd⟩:=hW
 have hA:DataW.TrodAll enc Try.prog W 0 (fun _=>true) true Try.f5.params.toList args.toList ds p:=hA0
 rw [Try.params5] at hA hval
 obtain ⟨v0,vs0,d0,ds0,p0,q0,hargs,rfl,rfl,h0,r0⟩:=trodAll_cons hA
 obtain ⟨v1,vs1,d1,ds1,p1,q1,rfl,rfl,rfl,h1,r1⟩:=trodAll_cons r0
 obtain ⟨v2,vs2,d2,ds2,p2,q2,rfl,rfl,rfl,h2,r2⟩:=trodAll_cons r1
 obtain ⟨v3,vs3,d3,ds3,p3,q3,rfl,rfl,rfl,h3,r3⟩:=trodAll_cons r2
 obtain ⟨v4,vs4,d4,ds4,p4,q4,rfl,rfl,rfl,h4,r4⟩:=trodAll_cons r3
 obtain ⟨v5,vs5,d5,ds5,p5,q5,rfl,rfl,rfl,h5,r5⟩:=trodAll_cons r4
 obtain ⟨rfl,rfl,rfl⟩:=trodAll_nil r5
 obtain rfl:args = #[v0,v1,v2,v3,v4,v5]:=by cases args;simp_all
 obtain ⟨rfl,rfl⟩:=trodVars_none hV
 have k0:=h0
 have lt0:∀ x∈p0,x.block<W.heap.size:=by obtain ⟨m,hm⟩:=k0;exact DataW.trod_lt m _ _ _ hm
 have k1:=h1
 have lt1:∀ x∈p1,x.block<W.heap.size:=by obtain ⟨m,hm⟩:=k1;exact DataW.trod_lt m _ _ _ hm
 have k2:=h2
 have lt2:∀ x∈p2,x.block<W.heap.size:=by obtain ⟨m,hm⟩:=k2;exact DataW.trod_lt m _ _ _ hm
 have k3:=h3
 have lt3:∀ x∈p3,x.block<W.heap.size:=by obtain ⟨m,hm⟩:=k3;exact DataW.trod_lt m _ _ _ hm
 have k4:=h4
 have lt4:∀ x∈p4,x.block<W.heap.size:=by obtain ⟨m,hm⟩:=k4;exact DataW.trod_lt m _ _ _ hm
 have k5:=h5
 have lt5:∀ x∈p5,x.block<W.heap.size:=by obtain ⟨m,hm⟩:=k5;exact DataW.trod_lt m _ _ _ hm
 obtain ⟨A0,T0,c0,rfl,hr0,hl0,hc0,hn0,hw0⟩:=open_types (tk:=5) (ti:=3) (tf:=62) (ef:=71) (ts:=9) Try.underlying22 Try.underlying64 kz rfl rfl rfl rfl kz kz kz kz (by rfl) (by rfl) (by rfl) (by rfl) Try.underlying5 Try.underlying3 Try.underlying62 Try.underlying71 kz rfl rfl kz kz (by rfl) (by rfl) Try.underlying9 (hval 0 22 v0 rfl rfl) h0
 obtain ⟨A'0,c'0,T'0,e0,g0,n0,s0,u0⟩:=types_here hr0 hl0 hc0 hn0 hw0
 replace e0:visV W.heap.size (.slice A0 T0.length c0) = .slice A'0 T'0.length c'0:=e0
 obtain ⟨b1,A1,xs1,c1,rfl,hr1,hb1,hB1,hl1,hc1,hn1⟩:=open_region Try.underlying29 kz kz rfl rfl Try.underlying24 Try.underlying27 Try.underlying5 kz (hval 1 29 v1 rfl rfl) h1
 obtain ⟨A'1,c'1,e1,g1,n1⟩:=bytes_here hr1 hl1 hc1 hn1
 obtain ⟨a2,rfl,_,_,wf2⟩:=open_int Try.underlying3 (hval 2 3 v2 rfl rfl) h2
 have w2:=bounds_i64 wf2
 obtain ⟨a3,rfl,_,_,wf3⟩:=open_int Try.underlying3 (hval 3 3 v3 rfl rfl) h3
 have w3:=bounds_i64 wf3
 obtain ⟨x4,cs4,e4,hx4,hi4⟩:=open_value2 (tk:=5) (ti:=2) (ts:=9) (tl:=30) (tb:=4) Try.underlying32 kz rfl rfl rfl rfl rfl kz kz kz kz kz (by rfl) (by rfl) (by rfl) (by rfl) (by rfl) Try.underlying5 Try.underlying2 Try.underlying9 Try.underlying30 Try.underlying4 (hval 4 32 v4 rfl rfl) h4
 obtain ⟨a5,rfl,_,_,wf5⟩:=open_int Try.underlying3 (hval 5 3 v5 rfl rfl) h5
 have w5:=bounds_i64 wf5
 clear hA0 hval0
 refine (calls_tabA (l:=tb15) (hl:=tb15_ok) (P:=Try.prog) (W:=WW) (k:=30000) (d:=3100) kz (vs:=[.slice A'0 T'0.length c'0,.agg ⟨[.int .u64 b1,.slice A'1 xs1.length c'1]⟩,.int .i64 a2,.int .i64 a3,.agg ⟨cs4⟩,.int .i64 a5]) (by rw [← e0,← e1,← e4];rfl) (valueBack_ev 30000 0 _ _ _ (Nat.le_refl _) _ _ _ _ _ _ _ _ _ _ _ _ hx4 hi4 g0 s0 u0 g1 n1 zm)).mono fun e W' ⟨he,bel⟩=>?_
 subst he
 exact ⟨_,rfl,_,_,_,[],_,[],hW',trodAll_mk1 (shut_bool Try.underlying4 _),(trodAll_cons_mk (Below.trod laidOut kz (of_decide_eq_true kz) k0 bel lt0) (trodAll_cons_mk (Below.trod laidOut kz (of_decide_eq_true kz) k1 bel lt1) (trodAll_cons_mk (Below.trod laidOut kz (of_decide_eq_true kz) k2 bel lt2) (trodAll_cons_mk (Below.trod laidOut kz (of_decide_eq_true kz) k3 bel lt3) (trodAll_cons_mk (Below.trod laidOut kz (of_decide_eq_true kz) k4 bel lt4) (trodAll_cons_mk (Below.trod laidOut kz (of_decide_eq_true kz) k5 bel lt5) trodAll_mk0)))))),rfl,bel.frame _,fun h=>by cases h⟩
theorem and2 {a b:Bool} (h:a=true) (k:b=true):(a && b)=true:=by rw [h,k];rfl
set_option maxHeartbeats 2000000 in
theorem facts:joinedFacts Try.prog 5 Try.f5 Rows.valueBackSpec Rows.valueBackRow=true:=by
 unfold joinedFacts
 refine and2 (and2 (and2 (and2 (and2 (and2 (and2 (and2 (and2 (and2 (and2 (and2 (and2 (and2 (and2 (and2 (and2 (and2 (and2 (and2 (and2 (and2 (and2 (and2 (and2 (and2 (and2 (and2 (and2 (and2 (and2 ?_ ?_) ?_) ?_) ?_) ?_) ?_) ?_) ?_) ?_) ?_) ?_) ?_) ?_) ?_) ?_) ?_) ?_) ?_) ?_) ?_) ?_) ?_) ?_) ?_) ?_) ?_) ?_) ?_) ?_) ?_) ?_
 all_goals (as_aux_lemma=>kernel_rfl)
theorem over:Rows.valueBackRow.holds Try.pinned (OpenSpec.ofChange Rows.valueBackSpec):=
 OpenClaim.holds_of_wide 5 Try.f5 rfl rfl rfl rfl rfl rfl rfl ⟨rfl,rfl,rfl,rfl,rfl⟩ rfl rfl rfl rfl rfl (by as_aux_lemma=>kernel_rfl) Try.func5 facts
  (by as_aux_lemma=>exact of_decide_eq_true kz) (by as_aux_lemma=>(unfold Func.isWrapper;first|(rw [if_pos (by decide +kernel)];kernel_rfl)|(rw [if_neg (by decide +kernel)];exact ⟨rfl,rfl⟩)))
  (fun os started H enc _=>lifted os started H enc)
/-- THE STATEMENT -/
theorem proved:Rows.ValueBackSaid:=over
#print axioms proved
end Go.Proofs.Ytcpkdjikembpnaa.valueBackDone
