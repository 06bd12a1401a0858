/- Parts of the proof of ValueLoads: Kp, Ja, Kw, Kj. No condition of its own. -/
import Derived.Test.YtcpkdjikembpnaaVlam
set_option linter.unusedVariables false
set_option linter.unusedSimpArgs false
set_option maxRecDepth 100000
set_option maxHeartbeats 4000000
namespace Go.Proofs.Ytcpkdjikembpnaa.Ce
open Go.RowKit
def fldB (i : Nat) (f : List UInt8 × Int) : Bool := namedB f.1 && decide (0 ≤ f.2 ∧ f.2 < i)
def fldsB (i : Nat) (fs : List (List UInt8 × Int)) : Bool := fs.all (fldB i) && decide ((fs.map (·.1)).Nodup)
def fineB (m i : Nat) (t : Tp) : Bool :=
  if t.kd = 1 ∨ t.kd = 2 ∨ t.kd = 3 then decide (t.el = 0 ∧ t.ln = 0 ∧ t.fs.length = 0)
  else if t.kd = 4 ∨ t.kd = 7 then decide (0 ≤ t.el ∧ t.el < m ∧ t.ln = 0 ∧ t.fs.length = 0)
  else if t.kd = 6 then decide (0 ≤ t.el ∧ t.el < i ∧ 1 ≤ t.ln ∧ t.ln ≤ 16 ∧ t.fs.length = 0)
  else if t.kd = 5 then fldsB i t.fs && decide (t.el = 0 ∧ t.ln = 0 ∧ 0 < t.fs.length ∧ t.fs.length ≤ 8)
  else false
theorem fineB_123 {m i : Nat} {t : Tp} (h : t.kd = 1 ∨ t.kd = 2 ∨ t.kd = 3) : fineB m i t = decide (t.el = 0 ∧ t.ln = 0 ∧ t.fs.length = 0) := by unfold fineB; rw [if_pos h]
theorem fineB_47 {m i : Nat} {t : Tp} (h : t.kd = 4 ∨ t.kd = 7) : fineB m i t = decide (0 ≤ t.el ∧ t.el < m ∧ t.ln = 0 ∧ t.fs.length = 0) := by unfold fineB; rw [if_neg (by omega), if_pos h]
theorem fineB_6 {m i : Nat} {t : Tp} (h : t.kd = 6) : fineB m i t = decide (0 ≤ t.el ∧ t.el < i ∧ 1 ≤ t.ln ∧ t.ln ≤ 16 ∧ t.fs.length = 0) := by unfold fineB; rw [if_neg (by omega), if_neg (by omega), if_pos h]
theorem fineB_5 {m i : Nat} {t : Tp} (h : t.kd = 5) : fineB m i t = (fldsB i t.fs && decide (t.el = 0 ∧ t.ln = 0 ∧ 0 < t.fs.length ∧ t.fs.length ≤ 8)) := by unfold fineB; rw [if_neg (by omega), if_neg (by omega), if_neg (by omega), if_pos h]
theorem fineB_no {m i : Nat} {t : Tp} (h : ¬ (1 ≤ t.kd ∧ t.kd ≤ 7)) : fineB m i t = false := by unfold fineB; rw [if_neg (by omega), if_neg (by omega), if_neg (by omega), if_neg (by omega)]
theorem fldsB_no {i q : Nat} {fs : List (List UInt8 × Int)} (hq : q < fs.length) (h : fldB i fs[q] = false) : fldsB i fs = false := by
  unfold fldsB
  have : fs.all (fldB i) = false := by
    rw [List.all_eq_false]
    exact ⟨fs[q], List.getElem_mem _, by rw [h]; exact Bool.false_ne_true⟩
  rw [this, Bool.false_and]
theorem fldsB_dup {i q : Nat} {fs : List (List UInt8 × Int)} (hq : q < fs.length) (h : (fs[q]).1 ∈ (fs.take q).map (·.1)) : fldsB i fs = false := by
  unfold fldsB
  have : ¬ (fs.map (·.1)).Nodup := by
    intro hn
    have e : fs.map (·.1) = (fs.take q).map (·.1) ++ ((fs[q]).1 :: (fs.drop (q + 1)).map (·.1)) := by
      rw [← List.map_cons (f := fun x : List UInt8 × Int => x.1), List.getElem_cons_drop, ← List.map_append, List.take_append_drop]
    rw [e, List.nodup_append] at hn
    exact hn.2.2 _ h _ List.mem_cons_self rfl
  rw [decide_eq_false this, Bool.and_false]
section
variable {P : Program} {F : CallE} {lim : Nat} {ops l : List Oper} {f : Fm} {h : Hp} {n : Nat} {dst : Option Tmp} {ty : TypeId} {pos : String} {af : Array Edge} {KO : Fm → Hp → Nat → Prop}
theorem o_look {gd : Option (Nat × Bool)} {x y : Operand} {id c : Nat} {es : Array MapEntry} {ns : List (List UInt8)} {s : List UInt8} (hw : wantsF ops gd f = some true) (hx : lv f x = .map (some id)) (hy : lv f y = .string ⟨⟨s⟩⟩) (hm : mapOf h id = some (es, c)) (he : Es es ns)
    (hk : XO Try.prog F lim ops l (fput f dst (.bool (decide (s ∈ ns)))) h n KO) : XO Try.prog F lim ops (⟨dst, .lookup 171 x y false, ty, pos, af, gd⟩ :: l) f h n KO :=
  o_eff hw (by rw [a_lookup, hx, hy]; exact m_look hm he) (by simp [memOp]) hk
theorem o_mput {gd : Option (Nat × Bool)} {x y z : Operand} {id c : Nat} {es : Array MapEntry} {ns : List (List UInt8)} {s : List UInt8} (hw : wantsF ops gd f = some true) (hx : lv f x = .map (some id)) (hy : lv f y = .string ⟨⟨s⟩⟩) (hz : lv f z = .bool true) (hm : mapOf h id = some (es, c)) (he : Es es ns) (hs : s ∉ ns) (hl : lim ≤ id)
    (hk : XO Try.prog F lim ops l (fput f dst undef) (h.set id (.mp (es.push ⟨.string ⟨⟨s⟩⟩, .bool true, c⟩) (c + 1))) n KO) : XO Try.prog F lim ops (⟨dst, .mapUpdate 171 x y z, ty, pos, af, gd⟩ :: l) f h n KO :=
  o_eff hw (by rw [a_mapUpdate, hx, hy, hz]; exact m_put hl hm he hs) (ok_w hl rfl) hk
end
end Go.Proofs.Ytcpkdjikembpnaa.Ce
namespace Go.Proofs.Ytcpkdjikembpnaa.Ce
open Go.RowKit
variable (k d cl : Nat) (h : Hp) (n : Nat)
theorem pfine_a (hk : 30000 ≤ k) (A : Option Addr) (T : List Tp) (c : Nat) (hT : TabH h n A T) (i : Nat) (hi : i < T.length) (hl : T.length ≤ 100) (h5 : T[i].kd ≠ 5) :
    SQ k (d + 5) cl 115 [.slice A T.length c, .int .i64 i] h n fun v h' n' => v = .bool (fineB T.length i T[i]) ∧ h' = h ∧ n' = n := by
  obtain ⟨id, off, rfl, hid, ht4, ht0, ht1, ht2, ht3⟩ := hT.at_ hi
  have hfd := hT.fd _ (List.getElem_mem hi)
  have hbd := hT.bd _ (List.getElem_mem hi)
  obtain ⟨t, htt⟩ : ∃ t, T[i] = t := ⟨_, rfl⟩
  rw [htt] at h5 ht4 ht0 ht1 ht2 ht3 hfd hbd ⊢
  obtain ⟨kd, el, ln, fs, FA, fc⟩ := t
  dsimp only at h5 ht4 ht0 ht1 ht2 ht3 hfd
  refine enter Try.func115 (by kernel_rfl) rfl (by kernel_rfl) rfl rfl rfl ?_
  by_cases h123 : kd = 1 ∨ kd = 2 ∨ kd = 3
  · have hf : fineB T.length i ⟨kd, el, ln, fs, FA, fc⟩ = [el, ln, (fs.length : Int)].all (· == 0) := by
      rw [fineB_123 h123, Bool.eq_iff_iff]; simp only [decide_eq_true_eq, Bool.and_eq_true, List.all_cons, List.all_nil, Bool.and_true, beq_iff_eq]; try omega
    rcases h123 with rfl | rfl | rfl
    all_goals
      (repeat' first | refine zcd ?_ | intro K' hK | (with_reducible refine zn hK ?_; clear hK) | ((with_reducible apply o_callF (g := 128) w_none); (case ha => exact ez0); (case hs => ((with_reducible apply zero_ev (l := [el, ln, (fs.length : Int)])); (case hk => exact hk); (case hm => rfl); (case hr => exact RdH.row (by omega)); (case hl => simp))); (case' hk => rintro _ h' n' ⟨rfl, rfl, rfl⟩)) | ((with_reducible first | apply zo1 | apply zo2 | apply o_guard rfl | apply x_cond | apply k_e1 rfl | apply k_e2 rfl | apply k_e0 rfl | apply k_e3 rfl | apply k_e4 rfl); (case he => exact ez1 ht4); (try case hok => exact ezO); all_goals try (intro hb; (try simp only [hbs, reduceCtorEq] at hb); try exact ezX)) | ((with_reducible apply o_undef rfl); (case hb => exact ez0)))
      all_goals exact sw_flat rfl rfl ⟨by rw [hf]; simp only [List.all_cons, List.all_nil, Bool.and_true], rfl, rfl⟩
  · by_cases h47 : kd = 4 ∨ kd = 7
    · have hf : fineB T.length i ⟨kd, el, ln, fs, FA, fc⟩ = (decide (0 ≤ el ∧ el < (T.length : Int)) && [ln, (fs.length : Int)].all (· == 0)) := by
        rw [fineB_47 h47, Bool.eq_iff_iff]; simp only [decide_eq_true_eq, Bool.and_eq_true, List.all_cons, List.all_nil, Bool.and_true, beq_iff_eq]; try omega
      cases hw : decide (0 ≤ el ∧ el < (T.length : Int))
      all_goals
        rw [hw] at hf
        rcases h47 with rfl | rfl
        all_goals
          (repeat' first | refine zcd ?_ | intro K' hK | (with_reducible refine zn hK ?_; clear hK) | ((with_reducible apply o_callV (g := 127) w_none); (case hx => exact ez0); (case ha => exact ez0); (case hs => exact within_ev ..); (case' hk => rintro _ h' n' ⟨rfl, rfl, rfl⟩)) | ((with_reducible apply o_callF (g := 128) w_none); (case ha => exact ez0); (case hs => ((with_reducible apply zero_ev (l := [ln, (fs.length : Int)])); (case hk => exact hk); (case hm => rfl); (case hr => exact RdH.row (by omega)); (case hl => simp))); (case' hk => rintro _ h' n' ⟨rfl, rfl, rfl⟩)) | ((with_reducible first | apply zo1 | apply zo2 | apply o_guard rfl | apply x_cond | apply k_e1 rfl | apply k_e2 rfl | apply k_e0 rfl | apply k_e3 rfl | apply k_e4 rfl); (case he => exact ez2 ht4 hw); (try case hok => exact ezO); all_goals try (intro hb; (try simp only [hbs, reduceCtorEq] at hb); try exact ezX)) | ((with_reducible apply o_undef rfl); (case hb => exact ez0)))
          all_goals exact sw_flat rfl rfl ⟨by rw [hf]; simp only [List.all_cons, List.all_nil, Bool.and_true, Bool.true_and, Bool.false_and], rfl, rfl⟩
    · by_cases h6 : kd = 6
      · have hf : fineB T.length i ⟨kd, el, ln, fs, FA, fc⟩ = (decide (0 ≤ el ∧ el < (i : Int)) && (decide (0 ≤ ln - 1 ∧ ln - 1 < 16) && [(fs.length : Int)].all (· == 0))) := by
          rw [fineB_6 h6, Bool.eq_iff_iff]; simp only [decide_eq_true_eq, Bool.and_eq_true, List.all_cons, List.all_nil, Bool.and_true, beq_iff_eq]; try omega
        subst h6
        cases hw : decide (0 ≤ el ∧ el < (i : Int))
        · rw [hw] at hf
          (repeat' first | refine zcd ?_ | intro K' hK | (with_reducible refine zn hK ?_; clear hK) | ((with_reducible apply o_callV (g := 127) w_none); (case hx => exact ez0); (case ha => exact ez0); (case hs => exact within_ev ..); (case' hk => rintro _ h' n' ⟨rfl, rfl, rfl⟩)) | ((with_reducible first | apply zo1 | apply zo2 | apply o_guard rfl | apply x_cond | apply k_e1 rfl | apply k_e2 rfl | apply k_e0 rfl | apply k_e3 rfl | apply k_e4 rfl); (case he => exact ez2 ht4 hw); (try case hok => exact ezO); all_goals try (intro hb; (try simp only [hbs, reduceCtorEq] at hb); try exact ezX)) | ((with_reducible apply o_undef rfl); (case hb => exact ez0)))
          all_goals exact sw_flat rfl rfl ⟨by rw [hf]; rfl, rfl, rfl⟩
        · rw [hw] at hf
          by_cases hlm : -9223372036854775807 ≤ ln ∧ ln ≤ 9223372036854775807
          · cases hw2 : decide (0 ≤ ln - 1 ∧ ln - 1 < 16)
            all_goals
              rw [hw2] at hf
              (repeat' first | refine zcd ?_ | intro K' hK | (with_reducible refine zn hK ?_; clear hK) | ((with_reducible apply o_callV (g := 127) w_none); (case hx => exact ez0); (case ha => exact ez0); (case hs => exact within_ev ..); (case' hk => rintro _ h' n' ⟨rfl, rfl, rfl⟩)) | ((with_reducible apply o_callF (g := 128) w_none); (case ha => exact ez0); (case hs => ((with_reducible apply zero_ev (l := [(fs.length : Int)])); (case hk => exact hk); (case hm => rfl); (case hr => exact RdH.row (by omega)); (case hl => simp))); (case' hk => rintro _ h' n' ⟨rfl, rfl, rfl⟩)) | ((with_reducible first | apply zo1 | apply zo2 | apply o_guard rfl | apply x_cond | apply k_e1 rfl | apply k_e2 rfl | apply k_e0 rfl | apply k_e3 rfl | apply k_e4 rfl); (case he => exact ez3 ht4 hw hw2); (try case hok => exact ezO); all_goals try (intro hb; (try simp only [hbs, reduceCtorEq] at hb); try exact ezX)) | ((with_reducible apply o_undef rfl); (case hb => exact ez0)))
              all_goals exact sw_flat rfl rfl ⟨by rw [hf]; simp only [List.all_cons, List.all_nil, Bool.and_true, Bool.true_and, Bool.false_and], rfl, rfl⟩
          · have e1 : ln = -9223372036854775808 := by have := hbd.2.2.1; unfold I64 at this; dsimp only at this; omega
            subst e1
            have hw2 : decide ((0 : Int) ≤ 9223372036854775807 ∧ (9223372036854775807 : Int) < 16) = false := rfl
            have hws : IntKind.wrap .i64 (-9223372036854775808 - 1) = 9223372036854775807 := rfl
            have hws2 : IntKind.wrap .i64 (-9223372036854775809) = 9223372036854775807 := rfl
            (repeat' first | refine zcd ?_ | intro K' hK | (with_reducible refine zn hK ?_; clear hK) | ((with_reducible apply o_callV (g := 127) w_none); (case hx => exact ez0); (case ha => exact ez0); (case hs => exact within_ev ..); (case' hk => rintro _ h' n' ⟨rfl, rfl, rfl⟩)) | ((with_reducible first | apply zo1 | apply zo2 | apply o_guard rfl | apply x_cond | apply k_e1 rfl | apply k_e2 rfl | apply k_e0 rfl | apply k_e3 rfl | apply k_e4 rfl); (case he => (intros; simp (disch := first | assumption | omega | rfl | decide) only [go_sem, seval, tys, ht4, hw, hws, hws2, (hw2)] <;> rfl)); (try case hok => exact ezO); all_goals try (intro hb; (try simp only [hbs, reduceCtorEq] at hb); try exact ezX)) | ((with_reducible apply o_undef rfl); (case hb => exact ez0)))
            all_goals first | exact absurd ‹True ∧ False› (fun h => h.2) | exact sw_flat rfl rfl ⟨by rw [hf]; rfl, rfl, rfl⟩
      · have hf : fineB T.length i ⟨kd, el, ln, fs, FA, fc⟩ = false := fineB_no (by dsimp only; omega)
        (repeat' first | refine zcd ?_ | intro K' hK | (with_reducible refine zn hK ?_; clear hK) | fail | ((with_reducible first | apply zo1 | apply zo2 | apply o_guard rfl | apply x_cond | apply k_e1 rfl | apply k_e2 rfl | apply k_e0 rfl | apply k_e3 rfl | apply k_e4 rfl); (case he => exact ez1 ht4); (try case hok => exact ezO); all_goals try (intro hb; (try simp only [hbs, reduceCtorEq] at hb); try exact ezX)) | ((with_reducible apply o_undef rfl); (case hb => exact ez0)))
        all_goals exact sw_flat rfl rfl ⟨by rw [hf], rfl, rfl⟩
end Go.Proofs.Ytcpkdjikembpnaa.Ce
namespace Go.Proofs.Ytcpkdjikembpnaa.Ce
open Go.RowKit
def sumF (now : List Int) (fs : List (List UInt8 × Int)) : Int := fs.foldl (fun a f => a + now.getD f.2.toNat 0) 0
def wHead (below now : List Int) (t : Tp) : Int := 1 + (if t.kd = 4 then below.getD t.el.toNat 0 else if t.kd = 7 then 16 * below.getD t.el.toNat 0 else if t.kd = 6 then t.ln * now.getD t.el.toNat 0 else 0)
def wOne (below now : List Int) (t : Tp) : Int := min (wHead below now t + sumF now t.fs) 5001
def wRow (below : List Int) (T : List Tp) : List Int := T.foldl (fun now t => now ++ [wOne below now t]) []
def zeros (m : Nat) : List Int := List.replicate m 0
def wD (T : List Tp) : Nat → List Int
  | 0 => wRow (zeros T.length) T
  | d + 1 => wRow (wD T d) T
theorem wRow_snoc (below : List Int) (T : List Tp) (t : Tp) : wRow below (T ++ [t]) = wRow below T ++ [wOne below (wRow below T) t] := by unfold wRow; rw [List.foldl_append]; rfl
theorem wRow_length' (below : List Int) : ∀ (T : List Tp) (a : List Int), (T.foldl (fun now t => now ++ [wOne below now t]) a).length = a.length + T.length
  | [], a => by simp
  | t :: T, a => by rw [List.foldl_cons, wRow_length' below T, List.length_append, List.length_cons]; simp; omega
theorem wRow_length (below : List Int) (T : List Tp) : (wRow below T).length = T.length := by unfold wRow; rw [wRow_length']; simp
theorem wRow_take (below : List Int) {T : List Tp} {i : Nat} (hi : i < T.length) : wRow below (T.take (i + 1)) = wRow below (T.take i) ++ [wOne below (wRow below (T.take i)) T[i]] := by rw [List.take_succ_eq_append_getElem hi, wRow_snoc]
theorem wRow_tlen (below : List Int) {T : List Tp} {i : Nat} (hi : i ≤ T.length) : (wRow below (T.take i)).length = i := by rw [wRow_length, List.length_take]; omega
def Bnd (l : List Int) : Prop := ∀ x ∈ l, 0 ≤ x ∧ x ≤ 5001
theorem Bnd.getD {l : List Int} (h : Bnd l) (i : Nat) : 0 ≤ l.getD i 0 ∧ l.getD i 0 ≤ 5001 := by
  rw [List.getD_eq_getElem?_getD]
  by_cases hi : i < l.length
  · rw [List.getElem?_eq_getElem hi]; exact h _ (List.getElem_mem _)
  · rw [List.getElem?_eq_none (by omega)]; simp
theorem zeros_bnd (m : Nat) : Bnd (zeros m) := fun x hx => by rw [List.eq_of_mem_replicate hx]; omega
theorem sumF_bnd {now : List Int} (h : Bnd now) (fs : List (List UInt8 × Int)) : 0 ≤ sumF now fs ∧ sumF now fs ≤ 5001 * fs.length := by
  have key : ∀ (fs : List (List UInt8 × Int)) (a : Int), a ≤ fs.foldl (fun a f => a + now.getD f.2.toNat 0) a ∧ fs.foldl (fun a f => a + now.getD f.2.toNat 0) a ≤ a + 5001 * fs.length := by
    intro fs
    induction fs with
    | nil => intro a; simp
    | cons f fs ih =>
      intro a
      have h1 := ih (a + now.getD f.2.toNat 0)
      have h2 := h.getD f.2.toNat
      rw [List.foldl_cons, List.length_cons]
      omega
  have := key fs 0
  unfold sumF
  omega
theorem sumF_snoc (now : List Int) (fs : List (List UInt8 × Int)) (f : List UInt8 × Int) : sumF now (fs ++ [f]) = sumF now fs + now.getD f.2.toNat 0 := by unfold sumF; rw [List.foldl_append]; rfl
theorem sumF_take (now : List Int) {fs : List (List UInt8 × Int)} {q : Nat} (hq : q < fs.length) : sumF now (fs.take (q + 1)) = sumF now (fs.take q) + now.getD (fs[q]).2.toNat 0 := by rw [List.take_succ_eq_append_getElem hq, sumF_snoc]
def Fine (T : List Tp) : Prop := ∀ i (hi : i < T.length), fineB T.length i T[i] = true
theorem fine_len {m i : Nat} {t : Tp} (h : fineB m i t = true) : t.fs.length ≤ 8 := by
  unfold fineB at h
  split at h
  · simp at h; rw [h.2.2]; simp
  · split at h
    · simp at h; rw [h.2.2.2]; simp
    · split at h
      · simp at h; rw [h.2.2.2.2]; simp
      · split at h
        · simp at h; exact h.2.2.2.2
        · cases h
theorem fine_nofs {m i : Nat} {t : Tp} (h : fineB m i t = true) (h5 : t.kd ≠ 5) : t.fs = [] := by
  unfold fineB at h
  split at h
  · simp at h; exact h.2.2
  · split at h
    · simp at h; exact h.2.2.2
    · split at h
      · simp at h; exact h.2.2.2.2
      · cases h
theorem fine_el {m i : Nat} {t : Tp} (h : fineB m i t = true) (hk : t.kd = 4 ∨ t.kd = 7) : 0 ≤ t.el ∧ t.el < m := by
  rw [fineB_47 hk] at h; simp at h; omega
theorem fine_arr {m i : Nat} {t : Tp} (h : fineB m i t = true) (hk : t.kd = 6) : 0 ≤ t.el ∧ t.el < i ∧ 1 ≤ t.ln ∧ t.ln ≤ 16 := by
  rw [fineB_6 hk] at h; simp at h; omega
theorem fine_fld {m i : Nat} {t : Tp} (h : fineB m i t = true) {q : Nat} (hq : q < t.fs.length) : 0 ≤ (t.fs[q]).2 ∧ (t.fs[q]).2 < i := by
  by_cases h5 : t.kd = 5
  · rw [fineB_5 h5, Bool.and_eq_true] at h
    have h1 := h.1
    unfold fldsB at h1
    rw [Bool.and_eq_true, List.all_eq_true] at h1
    have := h1.1 _ (List.getElem_mem hq)
    unfold fldB at this
    simp at this
    exact this.2
  · rw [fine_nofs h h5] at hq; simp at hq
theorem wHead_bnd {m i : Nat} {below now : List Int} {t : Tp} (hb : Bnd below) (hn : Bnd now) (hf : fineB m i t = true) : 1 ≤ wHead below now t ∧ wHead below now t ≤ 100000 := by
  have h1 := hb.getD t.el.toNat
  have h2 := hn.getD t.el.toNat
  unfold wHead
  split
  · omega
  · split
    · omega
    · split
      · rename_i h6
        have h3 := fine_arr hf h6
        have e1 : 0 ≤ t.ln * now.getD t.el.toNat 0 := Int.mul_nonneg (by omega) h2.1
        have e2 : t.ln * now.getD t.el.toNat 0 ≤ 16 * 5001 := Int.mul_le_mul h3.2.2.2 h2.2 h2.1 (by omega)
        omega
      · omega
theorem wOne_bnd {m i : Nat} {below now : List Int} {t : Tp} (hb : Bnd below) (hn : Bnd now) (hf : fineB m i t = true) : 1 ≤ wOne below now t ∧ wOne below now t ≤ 5001 := by
  have h1 := wHead_bnd hb hn hf
  have h2 := sumF_bnd hn t.fs
  unfold wOne
  omega
theorem wRow_bnd {below : List Int} {T : List Tp} (hb : Bnd below) (hf : Fine T) : ∀ i, i ≤ T.length → Bnd (wRow below (T.take i))
  | 0, _ => fun x hx => by simp [wRow] at hx
  | i + 1, hi => by
    have ih := wRow_bnd hb hf i (by omega)
    rw [wRow_take below (by omega)]
    intro x hx
    rcases List.mem_append.1 hx with hx | hx
    · exact ih x hx
    · have hx' := List.mem_singleton.1 hx
      have := wOne_bnd hb ih (hf i (by omega))
      rw [hx']; omega
theorem wRow_bnd' {below : List Int} {T : List Tp} (hb : Bnd below) (hf : Fine T) : Bnd (wRow below T) := by have := wRow_bnd hb hf T.length (Nat.le_refl _); rwa [List.take_length] at this
theorem wD_bnd {T : List Tp} (hf : Fine T) : ∀ d, Bnd (wD T d)
  | 0 => wRow_bnd' (zeros_bnd _) hf
  | d + 1 => wRow_bnd' (wD_bnd hf d) hf
theorem wD_length (T : List Tp) : ∀ d, (wD T d).length = T.length
  | 0 => wRow_length _ _
  | d + 1 => wRow_length _ _
def pad (below : List Int) (T : List Tp) (i : Nat) : List Int := wRow below (T.take i) ++ zeros (T.length - i)
theorem pad_zero (below : List Int) (T : List Tp) : pad below T 0 = zeros T.length := by simp [pad, wRow]
theorem pad_all (below : List Int) (T : List Tp) : pad below T T.length = wRow below T := by simp [pad, zeros]
theorem pad_length (below : List Int) {T : List Tp} {i : Nat} (hi : i ≤ T.length) : (pad below T i).length = T.length := by unfold pad zeros; rw [List.length_append, wRow_tlen below hi, List.length_replicate]; omega
theorem pad_getD (below : List Int) {T : List Tp} {i j : Nat} (hi : i ≤ T.length) (hj : j < i) : (pad below T i).getD j 0 = (wRow below (T.take i)).getD j 0 := by
  unfold pad
  rw [List.getD_eq_getElem?_getD, List.getElem?_append_left (by rw [wRow_tlen below hi]; exact hj), List.getD_eq_getElem?_getD]
theorem pad_succ (below : List Int) {T : List Tp} {i : Nat} (hi : i < T.length) : (pad below T i).set i (wOne below (wRow below (T.take i)) T[i]) = pad below T (i + 1) := by
  unfold pad zeros
  have hl := wRow_tlen below (Nat.le_of_lt hi)
  rw [List.set_append_right _ _ (by omega), hl, Nat.sub_self, wRow_take below hi, show T.length - i = (T.length - (i + 1)) + 1 from by omega, List.replicate_succ]
  simp
theorem iv_set (l : List Int) (i : Nat) (x : Int) : (iv l).set i (.int .i64 x) = iv (l.set i x) := by unfold iv; rw [List.map_set]
theorem iv_lget {l : List Int} {i : Nat} (hi : i < l.length) : lget (iv l) i = some (.int .i64 (l.getD i 0)) := by
  rw [lget_eq, iv_get hi, List.getD_eq_getElem?_getD, List.getElem?_eq_getElem hi]; rfl
end Go.Proofs.Ytcpkdjikembpnaa.Ce
namespace Go.Proofs.Ytcpkdjikembpnaa.Ce
open Go.RowKit
def Blk (O : Value) (b : Nat) : Prop := ∀ len c, O ≠ .slice (some ⟨b, 0, none⟩) len c
theorem blk_new {b m len c : Nat} (h : b < m) : Blk (.slice (some ⟨m, 0, none⟩) len c) b := by
  intro len2 c2 hh
  injection hh with hh
  injection hh with hh
  injection hh with hh
  omega
def IntsV (l : List Int) (h : Hp) (n : Nat) (v : Value) (h' : Hp) (n' : Nat) : Prop :=
  (l = [] ∧ v = .slice none 0 0 ∧ h' = h ∧ n' = n) ∨ (l ≠ [] ∧ v = .slice (some ⟨n, 0, none⟩) l.length l.length ∧ h' = h.set n (.row 3 false (iv l)) ∧ n' = n + 1)
def OwnI (l : List Int) (O : Value) (h' : Hp) (lo n' : Nat) : Prop :=
  (l = [] ∧ O = .slice none 0 0) ∨ (l ≠ [] ∧ ∃ id, lo ≤ id ∧ id < n' ∧ O = .slice (some ⟨id, 0, none⟩) l.length l.length ∧ rowOf h' id = some (3, false, iv l))
theorem iv_app1 (l : List Int) (x : Int) : iv (l ++ [x]) = iv l ++ [.int .i64 x] := by simp [iv]
def bw (l : List Bool) : List Value := l.map Value.bool
theorem bw_length (l : List Bool) : (bw l).length = l.length := by simp [bw]
theorem mk_falses (m : Nat) : (List.replicate m [Value.bool false]).flatten = bw (List.replicate m false) := by unfold bw; rw [List.map_replicate]; induction m with | zero => rfl | succ m ih => rw [List.replicate_succ, List.flatten_cons, ih, List.replicate_succ]; rfl
theorem bw_lget {l : List Bool} {i : Nat} {b : Bool} (hi : l[i]? = some b) : lget (bw l) i = some (.bool b) := by rw [lget_eq]; unfold bw; rw [List.getElem?_map, hi]; rfl
theorem bw_set {l : List Bool} {i : Nat} (hi : i < l.length) : overAt i [Value.bool true] (bw l) = some (bw (l.set i true)) := by
  rw [overAt_one (by rw [bw_length]; exact hi)]
  unfold bw
  rw [List.map_set]
end Go.Proofs.Ytcpkdjikembpnaa.Ce
namespace Go.Proofs.Ytcpkdjikembpnaa.Ce
open Go.RowKit
variable (k d cl : Nat) (h : Hp) (n : Nat)
def wAt (T : List Tp) (r : Nat) : List Int := match r with | 0 => zeros T.length | r + 1 => wD T r
theorem wAt_succ (T : List Tp) (r : Nat) : wAt T (r + 1) = wRow (wAt T r) T := by cases r <;> rfl
theorem wAt_bnd {T : List Tp} (hf : Fine T) (r : Nat) : Bnd (wAt T r) := by cases r with | zero => exact zeros_bnd _ | succ r => exact wD_bnd hf r
theorem wAt_length (T : List Tp) (r : Nat) : (wAt T r).length = T.length := by cases r with | zero => simp [wAt, zeros] | succ r => exact wD_length T r
theorem mk_zeros (m : Nat) : (List.replicate m [Value.int IntKind.i64 0]).flatten = iv (zeros m) := by unfold iv zeros; rw [List.map_replicate]; induction m with | zero => rfl | succ m ih => rw [List.replicate_succ, List.flatten_cons, ih, List.replicate_succ]; rfl
theorem min_lt {a : Int} : (if 5001 < a then (5001 : Int) else a) = min a 5001 := by rw [Int.min_def]; split <;> split <;> omega
theorem pwidths_ev (hk : 30000 ≤ k) (A : Option Addr) (T : List Tp) (c : Nat) (hT : TabH h n A T) (hl : T.length ≤ 32) (hF : Fine T) :
    SQ k (d + 1) cl 116 [.slice A T.length c] h n fun v h' n' => v = .slice (some ⟨n, 0, none⟩) T.length T.length ∧ h' = h.set n (.row 3 false (iv (wD T 3))) ∧ n' = n + 1 := by
  refine enter Try.func116 (by kernel_rfl) rfl (by kernel_rfl) rfl rfl rfl ?_
  (repeat' first | refine zcd ?_ | intro K' hK | (with_reducible refine zn hK ?_; clear hK) | fail | ((with_reducible first | apply zo1 | apply zo2 | apply o_guard rfl | apply x_cond | apply k_e1 rfl | apply k_e2 rfl | apply k_e0 rfl | apply k_e3 rfl | apply k_e4 rfl); (case he => exact ez1 @mk_zeros); (try case hok => exact ezO); all_goals try (intro hb; (try simp only [hbs, reduceCtorEq] at hb); try exact ezX)) | ((with_reducible apply o_undef rfl); (case hb => exact ez0)))
  refine x_loopV [3, 4, 5, 6, 7, 9, 13, 14, 15, 16, 17, 18, 19, 20, 21, 22, 23, 24, 25, 26, 27, 28, 29, 30, 31, 32, 33, 34, 35, 36, 37, 38, 39, 40, 41, 42, 43, 44, 45, 46, 47, 48, 49, 50, 51, 52, 53, 54, 55, 56, 57, 58, 59, 60, 61, 62, 63, 64, 65, 66, 67, 68, 69, 70, 71, 72, 73, 74, 75, 76, 77, 78, 79, 80] [3, 13] (fun m vs h' n' => ∃ (r id : Nat), m = 4 - r ∧ r ≤ 4 ∧ vs = [.slice (some ⟨id, 0, none⟩) T.length T.length, .int .i64 r] ∧ n ≤ id ∧ id < n' ∧ rowOf h' id = some (3, false, iv (wAt T r)) ∧ TabH h' n A T) 4 rfl (by omega) ?_ ?_
  · exact ⟨0, n, rfl, by omega, by simp (disch := first | assumption | omega | rfl | decide) only [go_sem, seval, tys] <;> rfl, by omega, by omega, by simp (disch := first | assumption | omega | rfl | decide) only [go_sem, seval, tys] <;> rfl, hT.set (Nat.le_refl _) _⟩
  · rintro m g _ h' n' ⟨r, id, rfl, hr, rfl, hid0, hid1, q0, hT2⟩
    by_cases hr4 : r < 4
    · have hBb := wAt_bnd hF r
      have hBl := wAt_length T r
      (repeat' first | refine zcd ?_ | intro K' hK | (with_reducible refine zn hK ?_; clear hK) | fail | ((with_reducible first | apply zo1 | apply zo2 | apply o_guard rfl | apply x_cond | apply k_e1 rfl | apply k_e2 rfl | apply k_e0 rfl | apply k_e3 rfl | apply k_e4 rfl); (case he => exact ez1 @mk_zeros); (try case hok => exact ezO); all_goals try (intro hb; (try simp only [hbs, reduceCtorEq] at hb); try exact ezX)) | ((with_reducible apply o_undef rfl); (case hb => exact ez0)))
      refine x_loopV [5, 6, 7, 9, 20, 21, 22, 23, 24, 25, 26, 27, 28, 29, 30, 31, 32, 33, 34, 35, 36, 37, 38, 39, 40, 41, 42, 43, 44, 45, 46, 47, 48, 49, 50, 51, 52, 53, 54, 55, 56, 57, 58, 59, 60, 61, 62, 63, 64, 65, 66, 67, 68, 69, 70, 71, 72, 73, 74, 75, 76, 77, 78] [20] (fun m vs h2 n2 => ∃ (i : Nat), m = T.length - i ∧ i ≤ T.length ∧ vs = [.int .i64 i] ∧ n' + 1 ≤ n2 ∧ rowOf h2 id = some (3, false, iv (wAt T r)) ∧ rowOf h2 n' = some (3, false, iv (pad (wAt T r) T i)) ∧ TabH h2 n A T) T.length rfl (by omega) ?_ ?_
      · exact ⟨0, rfl, by omega, by simp (disch := first | assumption | omega | rfl | decide) only [go_sem, seval, tys] <;> rfl, by omega, by simp (disch := first | assumption | omega | rfl | decide) only [go_sem, seval, tys, q0], by rw [pad_zero]; simp (disch := first | assumption | omega | rfl | decide) only [go_sem, seval, tys], hT2.set (by omega) _⟩
      · rintro m2 g2 _ h2 n2 ⟨i, rfl, hi, rfl, hn2, q1, q2, hT3⟩
        have e1 := fun o => cellAt_row (off := o) q1
        have e2 := fun o => cellAt_row (off := o) q2
        have w2 := rwOf_row q2
        by_cases hiT : i < T.length
        · obtain ⟨tid, toff, hA, htid, ht4, -, -, -, -⟩ := hT3.at_ hiT
          have hfine := hF i hiT
          have hnb := wRow_bnd hBb hF i hi
          have hpl := pad_length (wAt T r) hi
          have hwh := wHead_bnd hBb hnb hfine
          have hsp := pad_succ (wAt T r) hiT
          obtain ⟨t, htt⟩ : ∃ t, T[i] = t := ⟨_, rfl⟩
          have hmem : t ∈ T := by rw [← htt]; exact List.getElem_mem hiT
          rw [htt] at ht4 hfine hwh hsp
          have hfl := fine_len hfine
          obtain ⟨now, hnow⟩ : ∃ now, wRow (wAt T r) (T.take i) = now := ⟨_, rfl⟩
          rw [hnow] at hnb hwh hsp
          have hel : (t.kd = 4 ∨ t.kd = 7) → 0 ≤ t.el ∧ t.el < T.length := fine_el hfine
          have har : t.kd = 6 → 0 ≤ t.el ∧ t.el < i ∧ 1 ≤ t.ln ∧ t.ln ≤ 16 := fine_arr hfine
          have hxb := hBb.getD t.el.toNat
          have hyb := hnb.getD t.el.toNat
          have hbe4 : t.kd = 4 → lget (iv (wAt T r)) t.el.toNat = some (.int .i64 ((wAt T r).getD t.el.toNat 0)) := fun h4 => iv_lget (by have := hel (.inl h4); omega)
          have hbe7 : t.kd = 7 → lget (iv (wAt T r)) t.el.toNat = some (.int .i64 ((wAt T r).getD t.el.toNat 0)) := fun h7 => iv_lget (by have := hel (.inr h7); omega)
          have hne6 : t.kd = 6 → lget (iv (pad (wAt T r) T i)) t.el.toNat = some (.int .i64 (now.getD t.el.toNat 0)) := fun h6 => by
            have := har h6
            rw [iv_lget (by omega), pad_getD _ hi (by omega), hnow]
          have hmul : t.kd = 6 → 0 ≤ t.ln * now.getD t.el.toNat 0 ∧ t.ln * now.getD t.el.toNat 0 ≤ 16 * 5001 := fun h6 => by
            have := har h6
            exact ⟨Int.mul_nonneg (by omega) hyb.1, Int.mul_le_mul this.2.2.2 hyb.2 hyb.1 (by omega)⟩
          have hW4 : t.kd = 4 → wHead (wAt T r) now t = 1 + (wAt T r).getD t.el.toNat 0 := fun h4 => by unfold wHead; rw [if_pos h4]
          have hW7 : t.kd = 7 → wHead (wAt T r) now t = 1 + 16 * (wAt T r).getD t.el.toNat 0 := fun h7 => by unfold wHead; rw [if_neg (by omega), if_pos h7]
          have hW6 : t.kd = 6 → wHead (wAt T r) now t = 1 + t.ln * now.getD t.el.toNat 0 := fun h6 => by unfold wHead; rw [if_neg (by omega), if_neg (by omega), if_pos h6]
          have hW0 : ¬ t.kd = 4 → ¬ t.kd = 7 → ¬ t.kd = 6 → wHead (wAt T r) now t = 1 := fun h4 h7 h6 => by unfold wHead; rw [if_neg h4, if_neg h7, if_neg h6]; rfl
          subst hA
          have hb2 := hT3.fd t hmem
          (repeat' first | ((with_reducible apply x_cutF (x := .seq (.region 9 _ _) _) [7, 25, 26, 27, 28, 29, 30, 31, 32, 33, 34, 35, 36, 37, 38, 39, 40, 41, 42, 43, 44, 45, 46, 47, 48, 49, 50, 51, 52, 53, 54, 55, 56, 57] [7] (fun vs => vs = [.int .i64 (wHead (wAt T r) now t)])); (case hw => kernel_rfl); (case' hy => rintro g3 _ rfl)) | ((with_reducible apply k_cut); (show List.map _ _ = _); first | (rw [hW4 (by assumption)]; simp (disch := first | assumption | omega | rfl | decide) only [go_sem, seval, tys] <;> rfl) | (rw [hW7 (by assumption)]; simp (disch := first | assumption | omega | rfl | decide) only [go_sem, seval, tys] <;> rfl) | (rw [hW6 (by assumption)]; simp (disch := first | assumption | omega | rfl | decide) only [go_sem, seval, tys] <;> rfl) | (rw [hW0 (by assumption) (by assumption) (by assumption)]; simp (disch := first | assumption | omega | rfl | decide) only [go_sem, seval, tys] <;> rfl)) | refine zcd ?_ | intro K' hK | (with_reducible refine zn hK ?_; clear hK) | (with_reducible refine x_drawnD (id := 15) [(2, 5), (2, 7)] (by kernel_rfl) fun K' hK => ?_) | ((with_reducible apply d_nil); (case hp => exact ezP); (case' hx => (refine hK _ _ _ ?_; clear hK))) | ((with_reducible apply d_pure w_none); (case hp => exact rfl); (case hc => exact rfl); (case he => exact ez6 ht4 e1 e2 hbe4 hbe7 hne6)) | ((with_reducible apply d_eff w_none); (case hc => exact rfl); (case he => exact ez6 ht4 e1 e2 hbe4 hbe7 hne6); (case hok => exact ezO)) | ((with_reducible apply d_guard rfl); (case hb => exact ez6 ht4 e1 e2 hbe4 hbe7 hne6); (case' h1 => intro hb; (try simp only [hbs, reduceCtorEq] at hb); try exact ezX); (case' h2 => intro hb; (try simp only [hbs, reduceCtorEq] at hb); try exact ezX)) | ((with_reducible first | apply zo1 | apply zo2 | apply o_guard rfl | apply x_cond | apply k_e1 rfl | apply k_e2 rfl | apply k_e0 rfl | apply k_e3 rfl | apply k_e4 rfl); (case he => exact ez6 ht4 e1 e2 hbe4 hbe7 hne6); (try case hok => exact ezO); all_goals try (intro hb; (try simp only [hbs, reduceCtorEq] at hb); try exact ezX)) | ((with_reducible apply o_undef rfl); (case hb => exact ez0)))
          refine x_loopV [7, 9, 61, 62, 63, 64, 65, 66, 67, 68, 69, 70, 71, 72] [7, 61] (fun m vs h3 n3 => ∃ (q : Nat), m = t.fs.length - q ∧ q ≤ t.fs.length ∧ vs = [.int .i64 (wHead (wAt T r) now t + sumF now (t.fs.take q)), .int .i64 q] ∧ n2 + 1 ≤ n3 ∧ rowOf h3 id = some (3, false, iv (wAt T r)) ∧ rowOf h3 n' = some (3, false, iv (pad (wAt T r) T i)) ∧ TabH h3 n (some ⟨tid, toff, none⟩) T) t.fs.length rfl (by omega) ?_ ?_
          · exact ⟨0, rfl, by omega, by simp (disch := first | assumption | omega | rfl | decide) only [go_sem, seval, tys]; simp [sumF], by omega, by simp (disch := first | assumption | omega | rfl | decide) only [go_sem, seval, tys, q1], by simp (disch := first | assumption | omega | rfl | decide) only [go_sem, seval, tys, q2], hT3.set (by omega) _⟩
          · rintro m3 g4 _ h3 n3 ⟨q, rfl, hq, rfl, hn3, p1, p2, hT4⟩
            have f2 := fun o => cellAt_row (off := o) p2
            have v2 := rwOf_row p2
            have hsq := sumF_bnd hnb (t.fs.take q)
            have hql : (t.fs.take q).length ≤ 8 := by rw [List.length_take]; omega
            by_cases hqf : q < t.fs.length
            · obtain ⟨id2, off2, hFA, hid2, hf2, -, -⟩ := fld_at (hT4.fd t hmem) hqf
              have hfd := fine_fld hfine hqf
              have hst := sumF_take now hqf
              obtain ⟨ty, hty⟩ : ∃ ty, (t.fs[q]).2 = ty := ⟨_, rfl⟩
              rw [hty] at hf2 hfd hst
              have hzb := hnb.getD ty.toNat
              have hfe : lget (iv (pad (wAt T r) T i)) ty.toNat = some (.int .i64 (now.getD ty.toNat 0)) := by rw [iv_lget (by omega), pad_getD _ hi (by omega), hnow]
              (repeat' first | refine zcd ?_ | intro K' hK | (with_reducible refine zn hK ?_; clear hK) | fail | ((with_reducible first | apply zo1 | apply zo2 | apply o_guard rfl | apply x_cond | apply k_e1 rfl | apply k_e2 rfl | apply k_e0 rfl | apply k_e3 rfl | apply k_e4 rfl); (case he => exact ez4 hFA hf2 f2 hfe); (try case hok => exact ezO); all_goals try (intro hb; (try simp only [hbs, reduceCtorEq] at hb); try exact ezX)) | ((with_reducible apply o_undef rfl); (case hb => exact ez0)))
              refine k_round (t.fs.length - (q + 1)) (by omega) ⟨q + 1, rfl, by omega, by rw [hst]; simp (disch := first | assumption | omega | rfl | decide) only [go_sem, seval, tys]; rw [Int.add_assoc]; exact rfl, by omega, by simp (disch := first | assumption | omega | rfl | decide) only [go_sem, seval, tys, p1], by simp (disch := first | assumption | omega | rfl | decide) only [go_sem, seval, tys, p2], hT4.set (by omega) _⟩
            · obtain rfl : q = t.fs.length := by omega
              rw [List.take_length]
              rw [List.take_length] at hsq
              have hov : ∀ v, overAt i [v] (iv (pad (wAt T r) T i)) = some ((iv (pad (wAt T r) T i)).set i v) := fun v => overAt_one (by rw [iv_length, hpl]; exact hiT)
              have hwo : min (wHead (wAt T r) now t + sumF now t.fs) 5001 = wOne (wAt T r) now t := rfl
              (repeat' first | refine zcd ?_ | intro K' hK | (with_reducible refine zn hK ?_; clear hK) | fail | ((with_reducible first | apply zo1 | apply zo2 | apply o_guard rfl | apply x_cond | apply k_e1 rfl | apply k_e2 rfl | apply k_e0 rfl | apply k_e3 rfl | apply k_e4 rfl); (case he => exact ez2 v2 hov); (try case hok => exact ezO); all_goals try (intro hb; (try simp only [hbs, reduceCtorEq] at hb); try exact ezX)) | ((with_reducible apply o_undef rfl); (case hb => exact ez0)))
              refine k_round (T.length - (i + 1)) (by omega) ⟨i + 1, rfl, by omega, by simp (disch := first | assumption | omega | rfl | decide) only [go_sem, seval, tys] <;> rfl, by omega, by simp (disch := first | assumption | omega | rfl | decide) only [go_sem, seval, tys, p1], by simp (disch := first | assumption | omega | rfl | decide) only [go_sem, seval, tys]; rw [min_lt, hwo, iv_set, hsp], hT4.set (by omega) _⟩
        · obtain rfl : i = T.length := by omega
          rw [pad_all, ← wAt_succ] at q2
          (repeat' first | refine zcd ?_ | intro K' hK | (with_reducible refine zn hK ?_; clear hK) | fail | ((with_reducible first | apply zo1 | apply zo2 | apply o_guard rfl | apply x_cond | apply k_e1 rfl | apply k_e2 rfl | apply k_e0 rfl | apply k_e3 rfl | apply k_e4 rfl); (case he => exact ez0); (try case hok => exact ezO); all_goals try (intro hb; (try simp only [hbs, reduceCtorEq] at hb); try exact ezX)) | ((with_reducible apply o_undef rfl); (case hb => exact ez0)))
          refine k_round (4 - (r + 1)) (by omega) ⟨r + 1, n', rfl, by omega, by simp (disch := first | assumption | omega | rfl | decide) only [go_sem, seval, tys] <;> rfl, by omega, by omega, q2, hT3⟩
    · obtain rfl : r = 4 := by omega
      (repeat' first | refine zcd ?_ | intro K' hK | (with_reducible refine zn hK ?_; clear hK) | fail | ((with_reducible first | apply zo1 | apply zo2 | apply o_guard rfl | apply x_cond | apply k_e1 rfl | apply k_e2 rfl | apply k_e0 rfl | apply k_e3 rfl | apply k_e4 rfl); (case he => exact ez0); (try case hok => exact ezO); all_goals try (intro hb; (try simp only [hbs, reduceCtorEq] at hb); try exact ezX)) | ((with_reducible apply o_undef rfl); (case hb => exact ez0)))
      refine sw_row ezI rfl (by omega) (by simp (disch := first | assumption | omega | rfl | decide) only [go_sem, seval, tys, q0]; exact rfl) (iv_idA _ _) ezR ?_
      exact ⟨rfl, rfl, rfl⟩
end Go.Proofs.Ytcpkdjikembpnaa.Ce
namespace Go.Proofs.Ytcpkdjikembpnaa.Ce
open Go.RowKit
variable (k d cl : Nat) (h : Hp) (n : Nat)
theorem rparts_nil (hk : 30000 ≤ k) (kd el ln : Int) (FA : Option Addr) (fc : Nat) (h6 : kd ≠ 6) :
    SQ k (d + 1) cl 118 [.agg ⟨[.int .u8 kd, .int .i64 el, .int .i64 ln, .slice FA 0 fc]⟩] h n fun v h' n' => v = .slice none 0 0 ∧ h' = h ∧ n' = n := by
  refine enter Try.func118 (by kernel_rfl) rfl (by kernel_rfl) rfl rfl rfl ?_
  (repeat' first | refine zcd ?_ | intro K' hK | (with_reducible refine zn hK ?_; clear hK) | (with_reducible refine x_turns ?_) | (with_reducible refine x_turn (by omega) ?_) | (with_reducible refine k_turn ?_) | ((with_reducible first | apply zo1 | apply zo2 | apply o_guard rfl | apply x_cond | apply k_e1 rfl | apply k_e2 rfl | apply k_e0 rfl | apply k_e3 rfl | apply k_e4 rfl); (case he => exact ez0); (try case hok => exact ezO); all_goals try (intro hb; (try simp only [hbs, reduceCtorEq] at hb); try exact ezX)) | ((with_reducible apply o_undef rfl); (case hb => exact ez0)))
  all_goals exact sw_flat rfl rfl ⟨rfl, rfl, rfl⟩
theorem rparts_arr0 (hk : 30000 ≤ k) (el ln : Int) (FA : Option Addr) (fc : Nat) :
    SQ k (d + 1) cl 118 [.agg ⟨[.int .u8 6, .int .i64 el, .int .i64 ln, .slice FA 0 fc]⟩] h n fun v h' n' => v = .slice (some ⟨n, 0, none⟩) 1 1 ∧ h' = h.set n (.row 3 false (iv [el])) ∧ n' = n + 1 := by
  refine enter Try.func118 (by kernel_rfl) rfl (by kernel_rfl) rfl rfl rfl ?_
  (repeat' first | refine zcd ?_ | intro K' hK | (with_reducible refine zn hK ?_; clear hK) | (with_reducible refine x_turns ?_) | (with_reducible refine x_turn (by omega) ?_) | (with_reducible refine k_turn ?_) | ((with_reducible apply o_ap0 (t := 99) apT99 w_none); (case hs => exact ez0); (case hy => exact ez0); (case hsrc => exact src_row (rowOf_same _ _ _ _ _) rfl); (case hc => exact rfl); (case hm => omega); (case h0 => omega)) | ((with_reducible first | apply zo1 | apply zo2 | apply o_guard rfl | apply x_cond | apply k_e1 rfl | apply k_e2 rfl | apply k_e0 rfl | apply k_e3 rfl | apply k_e4 rfl); (case he => exact ez0); (try case hok => exact ezO); all_goals try (intro hb; (try simp only [hbs, reduceCtorEq] at hb); try exact ezX)) | ((with_reducible apply o_undef rfl); (case hb => exact ez0)))
  (refine sw_row ezI rfl (by omega) (by first | assumption | (simp (disch := first | assumption | omega | rfl | decide) only [go_sem, seval, tys] <;> rfl)) (by exact iv_idA _ [el]) ezR ?_; exact ⟨rfl, rfl, rfl⟩)
theorem rparts_fld (hk : 30000 ≤ k) (kd el ln : Int) (FA : Option Addr) (fs : List (List UInt8 × Int)) (fc : Nat) (h6 : kd ≠ 6) (h0 : fs ≠ []) (hr : RdH h n FA (fv fs)) (hl2 : fs.length ≤ 20000) :
    SQ k (d + 1) cl 118 [.agg ⟨[.int .u8 kd, .int .i64 el, .int .i64 ln, .slice FA fs.length fc]⟩] h n fun v h' n' => v = .slice (some ⟨n, 0, none⟩) fs.length fs.length ∧ h' = h.set n (.row 3 false (iv (fs.map (·.2)))) ∧ n' = n + 1 := by
  have h0l : 0 < fs.length := List.length_pos_iff.2 h0
  refine enter Try.func118 (by kernel_rfl) rfl (by kernel_rfl) rfl rfl rfl ?_
  (repeat' first | refine zcd ?_ | intro K' hK | (with_reducible refine zn hK ?_; clear hK) | fail | ((with_reducible first | apply zo1 | apply zo2 | apply o_guard rfl | apply x_cond | apply k_e1 rfl | apply k_e2 rfl | apply k_e0 rfl | apply k_e3 rfl | apply k_e4 rfl); (case he => exact ez0); (try case hok => exact ezO); all_goals try (intro hb; (try simp only [hbs, reduceCtorEq] at hb); try exact ezX)) | ((with_reducible apply o_undef rfl); (case hb => exact ez0)))
  refine x_loopV [3, 4, 13, 14, 15, 16, 17, 18, 19, 20, 21, 22, 23, 24, 25, 26, 27, 28] [3, 4] (fun m vs h' n' => ∃ (q : Nat) (O : Value), m = fs.length - q ∧ q ≤ fs.length ∧ vs = [O, .int .i64 q] ∧ RdH h' n FA (fv fs) ∧ rowOf h' n = some (64, false, [.int .u8 kd, .int .i64 el, .int .i64 ln, .slice FA fs.length fc]) ∧ n + 1 ≤ n' ∧
      ((q = 0 ∧ O = .slice none 0 0) ∨ (0 < q ∧ ∃ id, n + 1 ≤ id ∧ id < n' ∧ O = .slice (some ⟨id, 0, none⟩) q q ∧ rowOf h' id = some (3, false, iv ((fs.take q).map (·.2)))))) fs.length rfl (by omega) ?_ ?_
  · exact ⟨0, .slice none 0 0, rfl, by omega, by simp (disch := first | assumption | omega | rfl | decide) only [go_sem, seval, tys] <;> rfl, by exact ezD hr, by simp (disch := first | assumption | omega | rfl | decide) only [go_sem, seval, tys], by omega, .inl ⟨rfl, rfl⟩⟩
  · rintro m g _ h' n' ⟨q, O, rfl, hq, rfl, r2, q0, hn, hO⟩
    have d0 := fun o => cellAt_row (off := o) q0
    by_cases hqf : q < fs.length
    · obtain ⟨id2, off2, rfl, hid2, -, -, hfb⟩ := fld_at r2 hqf
      obtain ⟨ty, hty⟩ : ∃ ty, (fs[q]).2 = ty := ⟨_, rfl⟩
      rw [hty] at hfb
      have htk : iv ((fs.take (q + 1)).map (·.2)) = iv ((fs.take q).map (·.2)) ++ [.int .i64 ty] := by rw [List.take_succ_eq_append_getElem hqf, List.map_append, iv_app]; simp [iv, hty]
      have htl : (iv ((fs.take q).map (·.2))).length = q := by rw [iv_length, List.length_map, List.length_take]; omega
      have htw : (iv ((fs.take q).map (·.2))).take q = iv ((fs.take q).map (·.2)) := List.take_of_length_le (by omega)
      rcases hO with ⟨rfl, rfl⟩ | ⟨hp0, id, k1, k2, rfl, q4⟩
      · (repeat' first | refine zcd ?_ | intro K' hK | (with_reducible refine zn hK ?_; clear hK) | ((with_reducible apply o_ap0 (t := 99) apT99 w_none); (case hs => exact ez0); (case hy => exact ez0); (case hsrc => exact src_row (rowOf_same _ _ _ _ _) rfl); (case hc => exact rfl); (case hm => omega); (case h0 => omega)) | ((with_reducible first | apply zo1 | apply zo2 | apply o_guard rfl | apply x_cond | apply k_e1 rfl | apply k_e2 rfl | apply k_e0 rfl | apply k_e3 rfl | apply k_e4 rfl); (case he => exact ez2 d0 hfb); (try case hok => exact ezO); all_goals try (intro hb; (try simp only [hbs, reduceCtorEq] at hb); try exact ezX)) | ((with_reducible apply o_undef rfl); (case hb => exact ez0)))
        refine k_round (fs.length - 1) (by omega) ⟨1, .slice (some ⟨n' + 1, 0, none⟩) 1 1, rfl, by omega, by simp (disch := first | assumption | omega | rfl | decide) only [go_sem, seval, tys] <;> rfl, by exact ezD r2, by simp (disch := first | assumption | omega | rfl | decide) only [go_sem, seval, tys, q0], by omega, .inr ⟨by omega, n' + 1, by omega, by omega, rfl, ?_⟩⟩
        rw [htk]
        simp (disch := first | assumption | omega | rfl | decide) only [go_sem, seval, tys]
        exact rfl
      · have w4 := rwOf_row q4
        (repeat' first | refine zcd ?_ | intro K' hK | (with_reducible refine zn hK ?_; clear hK) | ((with_reducible apply o_apR (t := 99) apT99 w_none); (case hs => exact ez1 w4); (case hy => exact ez1 w4); (case hsrc => exact src_row (rowOf_same _ _ _ _ _) rfl); (case hr => exact ez1 w4); (case hc => exact rfl); (case hm => omega); (case hli => omega); (case hln => omega); (case hcs => omega)) | ((with_reducible first | apply zo1 | apply zo2 | apply o_guard rfl | apply x_cond | apply k_e1 rfl | apply k_e2 rfl | apply k_e0 rfl | apply k_e3 rfl | apply k_e4 rfl); (case he => exact ez2 d0 hfb); (try case hok => exact ezO); all_goals try (intro hb; (try simp only [hbs, reduceCtorEq] at hb); try exact ezX)) | ((with_reducible apply o_undef rfl); (case hb => exact ez0)))
        refine k_round (fs.length - (q + 1)) (by omega) ⟨q + 1, .slice (some ⟨n' + 1, 0, none⟩) (q + 1) (q + 1), rfl, by omega, by simp (disch := first | assumption | omega | rfl | decide) only [go_sem, seval, tys] <;> rfl, by exact ezD r2, by simp (disch := first | assumption | omega | rfl | decide) only [go_sem, seval, tys, q0], by omega, .inr ⟨by omega, n' + 1, by omega, by omega, rfl, ?_⟩⟩
        rw [htk]
        simp (disch := first | assumption | omega | rfl | decide) only [go_sem, seval, tys, htw]
    · obtain rfl : q = fs.length := by omega
      rcases hO with ⟨hz, -⟩ | ⟨hp0, id, k1, k2, rfl, q4⟩
      · omega
      · rw [List.take_length] at q4
        (repeat' first | refine zcd ?_ | intro K' hK | (with_reducible refine zn hK ?_; clear hK) | fail | ((with_reducible first | apply zo1 | apply zo2 | apply o_guard rfl | apply x_cond | apply k_e1 rfl | apply k_e2 rfl | apply k_e0 rfl | apply k_e3 rfl | apply k_e4 rfl); (case he => exact ez1 d0); (try case hok => exact ezO); all_goals try (intro hb; (try simp only [hbs, reduceCtorEq] at hb); try exact ezX)) | ((with_reducible apply o_undef rfl); (case hb => exact ez0)))
        refine sw_row ezI rfl (by omega) (by simp (disch := first | assumption | omega | rfl | decide) only [go_sem, seval, tys, q4]; exact rfl) (iv_idA _ _) ezR ?_
        exact ⟨rfl, rfl, rfl⟩
end Go.Proofs.Ytcpkdjikembpnaa.Ce
namespace Go.Proofs.Ytcpkdjikembpnaa.Ce
open Go.RowKit
def wq (now : List Int) (fs : List (List UInt8 × Int)) (q : Nat) : Int := min (1 + sumF now (fs.take q)) 5001
theorem wq_zero (now : List Int) (fs : List (List UInt8 × Int)) : wq now fs 0 = 1 := by simp [wq, sumF]; rfl
theorem wq_succ {now : List Int} (hn : Bnd now) {fs : List (List UInt8 × Int)} {q : Nat} (hq : q < fs.length) : min (wq now fs q + now.getD (fs[q]).2.toNat 0) 5001 = wq now fs (q + 1) := by
  have h1 := hn.getD (fs[q]).2.toNat
  have h2 := sumF_bnd hn (fs.take q)
  unfold wq
  rw [sumF_take now hq]
  omega
theorem wOne_4 {below now : List Int} {t : Tp} (h : t.kd = 4) (hf : t.fs = []) : wOne below now t = min (1 + below.getD t.el.toNat 0) 5001 := by unfold wOne wHead; rw [if_pos h, hf]; simp [sumF]
theorem wOne_7 {below now : List Int} {t : Tp} (h : t.kd = 7) (hf : t.fs = []) : wOne below now t = min (1 + 16 * below.getD t.el.toNat 0) 5001 := by unfold wOne wHead; rw [if_neg (by omega), if_pos h, hf]; simp [sumF]
theorem wOne_6 {below now : List Int} {t : Tp} (h : t.kd = 6) (hf : t.fs = []) : wOne below now t = min (1 + t.ln * now.getD t.el.toNat 0) 5001 := by unfold wOne wHead; rw [if_neg (by omega), if_neg (by omega), if_pos h, hf]; simp [sumF]
theorem wOne_f {below now : List Int} {t : Tp} (h4 : t.kd ≠ 4) (h7 : t.kd ≠ 7) (h6 : t.kd ≠ 6) : wOne below now t = wq now t.fs t.fs.length := by unfold wOne wHead wq; rw [if_neg h4, if_neg h7, if_neg h6, List.take_length]; simp
theorem zeros_getD (m i : Nat) : (zeros m).getD i 0 = 0 := by
  rw [List.getD_eq_getElem?_getD]
  unfold zeros
  by_cases h : i < m
  · rw [List.getElem?_replicate]; simp [h]
  · rw [List.getElem?_eq_none (by simp; omega)]; rfl
end Go.Proofs.Ytcpkdjikembpnaa.Ce
