/- Parts of the proof of TopCode: Kb, Kp, Ja. No condition of its own. -/
import Derived.Test.YtkngdfbibffdcaaTak
import Derived.Test.YtkngdfbibffdcaaTal
set_option linter.unusedVariables false
set_option linter.unusedSimpArgs false
set_option maxRecDepth 100000
set_option maxHeartbeats 4000000
namespace Go.Proofs.Ytkngdfbibffdcaa.Ce
open Go.RowKit
def letB (c : UInt8) : Bool := decide ((97 ≤ c.toNat ∧ c.toNat ≤ 122) ∨ (65 ≤ c.toNat ∧ c.toNat ≤ 90))
def chrB (c : UInt8) : Bool := letB c || decide (48 ≤ c.toNat ∧ c.toNat ≤ 57)
def namedB (s : List UInt8) : Bool := decide (s.length ≤ 16) && (match s with | [] => false | c :: _ => letB c) && s.all chrB
def or8 (a b : Int) : Int := IntKind.wrap .u8 ((BitVec.ofInt 8 a ||| BitVec.ofInt 8 b).toNat : Int)
def and8 (a b : Int) : Int := IntKind.wrap .u8 ((BitVec.ofInt 8 a &&& BitVec.ofInt 8 b).toNat : Int)
theorem chr8n : ∀ n : Fin 256, decide ((or8 (n.val : Int) 32 < 97 ∨ 122 < or8 (n.val : Int) 32 ∨ and8 (n.val : Int) 64 = 0) ∧ (n.val < 48 ∨ 57 < n.val)) = !(decide ((97 ≤ n.val ∧ n.val ≤ 122) ∨ (65 ≤ n.val ∧ n.val ≤ 90)) || decide (48 ≤ n.val ∧ n.val ≤ 57)) := by decide +kernel
theorem chr8 (c : UInt8) : ((or8 (c.toNat : Int) 32 < 97 ∨ 122 < or8 (c.toNat : Int) 32 ∨ and8 (c.toNat : Int) 64 = 0) ∧ (c.toNat < 48 ∨ 57 < c.toNat)) ↔ chrB c = false := by
  have := chr8n ⟨c.toNat, c.toNat_lt⟩
  dsimp only at this
  unfold chrB letB
  rw [← Bool.not_eq_true', ← this, decide_eq_true_eq]
theorem b_or32 (a : Int) (h : Hp) (n : Nat) : mBin Try.prog .or 5 (.int .u8 a) (.int .u8 32) h n = some ⟨.int .u8 (or8 a 32), h, n, [], []⟩ := rfl
theorem b_and64 (a : Int) (h : Hp) (n : Nat) : mBin Try.prog .and 5 (.int .u8 a) (.int .u8 64) h n = some ⟨.int .u8 (and8 a 64), h, n, [], []⟩ := rfl
theorem ix_str (s : List UInt8) {i : Nat} (hi : i < s.length) (k : IntKind) (h : Hp) (n : Nat) : mIndex Try.prog 9 (.string ⟨⟨s⟩⟩) (.int k (i : Int)) h n = some ⟨.int .u8 (s[i]).toNat, h, n, [], []⟩ := by
  show (bif tyStr Try.prog 9 then (lget s i).bind fun b => mV (.int .u8 b.toNat) h n else none) = _
  rw [show tyStr Try.prog 9 = true from by kernel_rfl, lget_eq, List.getElem?_eq_getElem hi]
  rfl
theorem bvals_bv (t : List UInt8) : bvals ⟨⟨t⟩⟩ = bv t := rfl
theorem size_mk (t : List UInt8) : ByteArray.size ⟨⟨t⟩⟩ = t.length := rfl
theorem named_no {s : List UInt8} {i : Nat} (hi : i < s.length) (h : chrB s[i] = false) : namedB s = false := by
  unfold namedB
  have : s.all chrB = false := by
    rw [List.all_eq_false]
    exact ⟨s[i], List.getElem_mem _, by rw [h]; exact Bool.false_ne_true⟩
  rw [this, Bool.and_false]
end Go.Proofs.Ytkngdfbibffdcaa.Ce
namespace Go.Proofs.Ytkngdfbibffdcaa.Ce
open Go.RowKit
variable (k d cl : Nat) (h : Hp) (n : Nat)
theorem letter_ev (c : UInt8) : SQ k (d + 1) cl 77 [.int .u8 c.toNat] h n fun v h' n' => v = .bool (letB c) ∧ h' = h ∧ n' = n := by
  refine enter Try.func77 (by kernel_rfl) rfl (by kernel_rfl) rfl rfl rfl ?_
  (repeat' first | refine zcd ?_ | intro K' hK | (with_reducible refine zn hK ?_; clear hK) | fail | ((with_reducible first | apply zo1 | apply zo2 | apply o_guard rfl | apply x_cond | apply k_e1 rfl | apply k_e2 rfl | apply k_e0 rfl | apply k_e3 rfl | apply k_e4 rfl); (case he => exact ez0); (try case hok => exact ezO); all_goals try (intro hb; (try simp only [hbs, reduceCtorEq] at hb); try exact ezX)) | ((with_reducible apply o_undef rfl); (case hb => exact ez0)))
  all_goals exact sw_flat rfl rfl ⟨by congr 1; unfold letB; first | (rw [eq_comm, decide_eq_true_eq]; omega) | (rw [eq_comm, decide_eq_false_iff_not]; omega) | (rw [Bool.eq_iff_iff]; simp only [decide_eq_true_eq]; omega), rfl, rfl⟩
theorem rnamed_ev (hk : 30000 ≤ k) (s : List UInt8) : SQ k (d + 2) cl 72 [.string ⟨⟨s⟩⟩] h n fun v h' n' => v = .bool (namedB s) ∧ h' = h ∧ n' = n := by
  refine enter Try.func72 (by kernel_rfl) rfl (by kernel_rfl) rfl rfl rfl ?_
  rcases s with _ | ⟨c, r⟩
  · (repeat' first | refine zcd ?_ | intro K' hK | (with_reducible refine zn hK ?_; clear hK) | fail | ((with_reducible first | apply zo1 | apply zo2 | apply o_guard rfl | apply x_cond | apply k_e1 rfl | apply k_e2 rfl | apply k_e0 rfl | apply k_e3 rfl | apply k_e4 rfl); (case he => exact ez1 @size_mk); (try case hok => exact ezO); all_goals try (intro hb; (try simp only [hbs, reduceCtorEq] at hb); try exact ezX)) | ((with_reducible apply o_undef rfl); (case hb => exact ez0)))
    all_goals first | (exfalso; simp at *; done) | exact sw_flat rfl rfl ⟨rfl, rfl, rfl⟩
  · by_cases hl : (c :: r).length ≤ 16
    · have e0 := ix_str (c :: r) (i := 0) (by simp) .i64
      rw [show (c :: r)[0]'(by simp) = c from rfl] at e0
      have e0' : ∀ (h : Hp) (n : Nat), mIndex Try.prog 9 (.string ⟨⟨c :: r⟩⟩) (.int .i64 0) h n = some ⟨.int .u8 c.toNat, h, n, [], []⟩ := e0
      rw [List.length_cons] at hl
      obtain ⟨s, hs⟩ : ∃ s, c :: r = s := ⟨_, rfl⟩
      have hsl : s.length = r.length + 1 := by rw [← hs]; rfl
      rw [hs] at e0' ⊢
      cases hc : letB c
      · (repeat' first | refine zcd ?_ | intro K' hK | (with_reducible refine zn hK ?_; clear hK) | ((with_reducible apply o_callF (g := 77) w_none); (case ha => exact ez0); (case hs => exact letter_ev ..); (case' hk => rintro _ h' n' ⟨rfl, rfl, rfl⟩)) | ((with_reducible first | apply zo1 | apply zo2 | apply o_guard rfl | apply x_cond | apply k_e1 rfl | apply k_e2 rfl | apply k_e0 rfl | apply k_e3 rfl | apply k_e4 rfl); (case he => exact ez3 @size_mk e0' hc); (try case hok => exact ezO); all_goals try (intro hb; (try simp only [hbs, reduceCtorEq] at hb); try exact ezX)) | ((with_reducible apply o_undef rfl); (case hb => exact ez0)))
        all_goals exact sw_flat rfl rfl ⟨by congr 1; unfold namedB; rw [← hs]; simp [hc], rfl, rfl⟩
      · (repeat' first | refine zcd ?_ | intro K' hK | (with_reducible refine zn hK ?_; clear hK) | ((with_reducible apply o_callF (g := 77) w_none); (case ha => exact ez0); (case hs => exact letter_ev ..); (case' hk => rintro _ h' n' ⟨rfl, rfl, rfl⟩)) | ((with_reducible first | apply zo1 | apply zo2 | apply o_guard rfl | apply x_cond | apply k_e1 rfl | apply k_e2 rfl | apply k_e0 rfl | apply k_e3 rfl | apply k_e4 rfl); (case he => exact ez3 @size_mk e0' hc); (try case hok => exact ezO); all_goals try (intro hb; (try simp only [hbs, reduceCtorEq] at hb); try exact ezX)) | ((with_reducible apply o_undef rfl); (case hb => exact ez0)))
        refine x_loopF [2, 3, 18, 19, 20, 21, 22, 23, 24, 25, 26, 27, 28, 29, 30, 31, 32, 33, 34, 35, 36, 37, 38, 39, 40] [3] (fun m vs => m ≤ s.length ∧ vs = [.int .i64 ((s.length - m : Nat) : Int)] ∧ (s.take (s.length - m)).all chrB = true) s.length rfl (by omega) ⟨Nat.le_refl _, by simp (disch := first | assumption | omega | rfl | decide) only [go_sem, seval, tys]; rw [Nat.sub_self]; rfl, by rw [Nat.sub_self]; rfl⟩ ?_
        rintro m g _ ⟨hm, rfl, hall⟩
        rcases m with _ | m
        · rw [Nat.sub_zero, List.take_length] at hall
          (repeat' first | refine zcd ?_ | intro K' hK | (with_reducible refine zn hK ?_; clear hK) | fail | ((with_reducible first | apply zo1 | apply zo2 | apply o_guard rfl | apply x_cond | apply k_e1 rfl | apply k_e2 rfl | apply k_e0 rfl | apply k_e3 rfl | apply k_e4 rfl); (case he => exact ez1 @size_mk); (try case hok => exact ezO); all_goals try (intro hb; (try simp only [hbs, reduceCtorEq] at hb); try exact ezX)) | ((with_reducible apply o_undef rfl); (case hb => exact ez0)))
          all_goals exact sw_flat rfl rfl ⟨by congr 1; unfold namedB; rw [hall, ← hs, List.length_cons]; simp [hc]; omega, rfl, rfl⟩
        · obtain ⟨i, hi⟩ : ∃ i, s.length - (m + 1) = i := ⟨_, rfl⟩
          rw [hi] at hall ⊢
          have his : i < s.length := by omega
          have e1 := ix_str s his .i64
          obtain ⟨x, hx⟩ : ∃ x, s[i] = x := ⟨_, rfl⟩
          rw [hx] at e1
          cases hch : chrB x
          · have hno := named_no his (by rw [hx]; exact hch)
            have hdig : letB x = false ∧ ¬ (48 ≤ x.toNat ∧ x.toNat ≤ 57) := by unfold chrB at hch; simpa using hch
            obtain ⟨hlx, hdg⟩ := hdig
            (repeat' first | refine zcd ?_ | intro K' hK | (with_reducible refine zn hK ?_; clear hK) | ((with_reducible apply o_callF (g := 77) w_none); (case ha => exact ez0); (case hs => exact letter_ev ..); (case' hk => rintro _ h' n' ⟨rfl, rfl, rfl⟩)) | ((with_reducible first | apply zo1 | apply zo2 | apply o_guard rfl | apply x_cond | apply k_e1 rfl | apply k_e2 rfl | apply k_e0 rfl | apply k_e3 rfl | apply k_e4 rfl); (case he => exact ez3 @size_mk e1 hlx); (try case hok => exact ezO); all_goals try (intro hb; (try simp only [hbs, reduceCtorEq] at hb); try exact ezX)) | ((with_reducible apply o_undef rfl); (case hb => exact ez0)))
            all_goals exact sw_flat rfl rfl ⟨by rw [hno], rfl, rfl⟩
          · have hall2 : (s.take (s.length - m)).all chrB = true := by
              rw [show s.length - m = i + 1 from by omega, List.take_succ_eq_append_getElem his, List.all_append, hall, hx]
              simp [hch]
            have hnx : (i : Int) + 1 = ((s.length - m : Nat) : Int) := by omega
            cases hlx : letB x
            · have hdg : 48 ≤ x.toNat ∧ x.toNat ≤ 57 := by unfold chrB at hch; rw [hlx] at hch; simpa using hch
              (repeat' first | refine zcd ?_ | intro K' hK | (with_reducible refine zn hK ?_; clear hK) | ((with_reducible apply o_callF (g := 77) w_none); (case ha => exact ez0); (case hs => exact letter_ev ..); (case' hk => rintro _ h' n' ⟨rfl, rfl, rfl⟩)) | ((with_reducible first | apply zo1 | apply zo2 | apply o_guard rfl | apply x_cond | apply k_e1 rfl | apply k_e2 rfl | apply k_e0 rfl | apply k_e3 rfl | apply k_e4 rfl); (case he => exact ez3 @size_mk e1 hlx); (try case hok => exact ezO); all_goals try (intro hb; (try simp only [hbs, reduceCtorEq] at hb); try exact ezX)) | ((with_reducible apply o_undef rfl); (case hb => exact ez0)))
              all_goals exact k_round m (by omega) ⟨⟨rfl, rfl⟩, by omega, by simp (disch := first | assumption | omega | rfl | decide) only [go_sem, seval, tys]; rw [hnx], hall2⟩
            · (repeat' first | refine zcd ?_ | intro K' hK | (with_reducible refine zn hK ?_; clear hK) | ((with_reducible apply o_callF (g := 77) w_none); (case ha => exact ez0); (case hs => exact letter_ev ..); (case' hk => rintro _ h' n' ⟨rfl, rfl, rfl⟩)) | ((with_reducible first | apply zo1 | apply zo2 | apply o_guard rfl | apply x_cond | apply k_e1 rfl | apply k_e2 rfl | apply k_e0 rfl | apply k_e3 rfl | apply k_e4 rfl); (case he => exact ez3 @size_mk e1 hlx); (try case hok => exact ezO); all_goals try (intro hb; (try simp only [hbs, reduceCtorEq] at hb); try exact ezX)) | ((with_reducible apply o_undef rfl); (case hb => exact ez0)))
              all_goals exact k_round m (by omega) ⟨⟨rfl, rfl⟩, by omega, by simp (disch := first | assumption | omega | rfl | decide) only [go_sem, seval, tys]; rw [hnx], hall2⟩
    · have hlen : (c :: r).length = r.length + 1 := rfl
      have hno : namedB (c :: r) = false := by unfold namedB; rw [show decide ((c :: r).length ≤ 16) = false from decide_eq_false hl]; rfl
      (repeat' first | refine zcd ?_ | intro K' hK | (with_reducible refine zn hK ?_; clear hK) | ((with_reducible apply o_callF (g := 77) w_none); (case ha => exact ez0); (case hs => exact letter_ev ..); (case' hk => rintro _ h' n' ⟨rfl, rfl, rfl⟩)) | ((with_reducible first | apply zo1 | apply zo2 | apply o_guard rfl | apply x_cond | apply k_e1 rfl | apply k_e2 rfl | apply k_e0 rfl | apply k_e3 rfl | apply k_e4 rfl); (case he => exact ez1 @size_mk); (try case hok => exact ezO); all_goals try (intro hb; (try simp only [hbs, reduceCtorEq] at hb); try exact ezX)) | ((with_reducible apply o_undef rfl); (case hb => exact ez0)))
      all_goals exact sw_flat rfl rfl ⟨by rw [hno], rfl, rfl⟩
theorem pnamed_ev (hk : 30000 ≤ k) (s : List UInt8) : SQ k (d + 1) cl 76 [.string ⟨⟨s⟩⟩] h n fun v h' n' => v = .bool (namedB s) ∧ h' = h ∧ n' = n := by
  refine enter Try.func76 (by kernel_rfl) rfl (by kernel_rfl) rfl rfl rfl ?_
  rcases s with _ | ⟨c, r⟩
  · (repeat' first | refine zcd ?_ | intro K' hK | (with_reducible refine zn hK ?_; clear hK) | fail | ((with_reducible first | apply zo1 | apply zo2 | apply o_guard rfl | apply x_cond | apply k_e1 rfl | apply k_e2 rfl | apply k_e0 rfl | apply k_e3 rfl | apply k_e4 rfl); (case he => exact ez1 @size_mk); (try case hok => exact ezO); all_goals try (intro hb; (try simp only [hbs, reduceCtorEq] at hb); try exact ezX)) | ((with_reducible apply o_undef rfl); (case hb => exact ez0)))
    all_goals first | (exfalso; simp at *; done) | exact sw_flat rfl rfl ⟨rfl, rfl, rfl⟩
  · by_cases hl : (c :: r).length ≤ 16
    · have e0 := ix_str (c :: r) (i := 0) (by simp) .i64
      rw [show (c :: r)[0]'(by simp) = c from rfl] at e0
      have e0' : ∀ (h : Hp) (n : Nat), mIndex Try.prog 9 (.string ⟨⟨c :: r⟩⟩) (.int .i64 0) h n = some ⟨.int .u8 c.toNat, h, n, [], []⟩ := e0
      rw [List.length_cons] at hl
      obtain ⟨s, hs⟩ : ∃ s, c :: r = s := ⟨_, rfl⟩
      have hsl : s.length = r.length + 1 := by rw [← hs]; rfl
      rw [hs] at e0' ⊢
      by_cases h9 : c.toNat ≤ 57
      · have hc : letB c = false := by unfold letB; exact decide_eq_false (by omega)
        (repeat' first | refine zcd ?_ | intro K' hK | (with_reducible refine zn hK ?_; clear hK) | fail | ((with_reducible first | apply zo1 | apply zo2 | apply o_guard rfl | apply x_cond | apply k_e1 rfl | apply k_e2 rfl | apply k_e0 rfl | apply k_e3 rfl | apply k_e4 rfl); (case he => exact ez2 @size_mk e0'); (try case hok => exact ezO); all_goals try (intro hb; (try simp only [hbs, reduceCtorEq] at hb); try exact ezX)) | ((with_reducible apply o_undef rfl); (case hb => exact ez0)))
        all_goals exact sw_flat rfl rfl ⟨by congr 1; unfold namedB; rw [← hs]; simp [hc], rfl, rfl⟩
      · have hb0 := bv_length s
        have hsz : ByteArray.size ⟨⟨s⟩⟩ ≤ 1000000 := by rw [size_mk]; omega
        (repeat' first | refine zcd ?_ | intro K' hK | (with_reducible refine zn hK ?_; clear hK) | fail | ((with_reducible first | apply zo1 | apply zo2 | apply o_guard rfl | apply x_cond | apply k_e1 rfl | apply k_e2 rfl | apply k_e0 rfl | apply k_e3 rfl | apply k_e4 rfl); (case he => exact ez4 @size_mk e0' @bvals_bv hb0); (try case hok => exact ezO); all_goals try (intro hb; (try simp only [hbs, reduceCtorEq] at hb); try exact ezX)) | ((with_reducible apply o_undef rfl); (case hb => exact ez0)))
        refine x_loopF [2, 4, 21, 22, 23, 24, 25, 26, 27, 28, 29, 30, 31, 32, 33, 34, 35, 36, 37, 38, 39, 40, 41, 42, 43, 44, 45, 46] [21] (fun m vs => m ≤ s.length ∧ vs = [.int .i64 ((s.length - m : Nat) : Int)] ∧ (s.take (s.length - m)).all chrB = true) s.length rfl (by omega) ⟨Nat.le_refl _, by simp (disch := first | assumption | omega | rfl | decide) only [go_sem, seval, tys]; rw [Nat.sub_self]; rfl, by rw [Nat.sub_self]; rfl⟩ ?_
        rintro m g _ ⟨hm, rfl, hall⟩
        rcases m with _ | m
        · rw [Nat.sub_zero, List.take_length] at hall
          have hc : letB c = true := by
            have h1 : chrB c = true := by rw [← hs, List.all_cons, Bool.and_eq_true] at hall; exact hall.1
            unfold chrB at h1
            simp only [Bool.or_eq_true, decide_eq_true_eq] at h1
            rcases h1 with h1 | h1
            · exact h1
            · omega
          (repeat' first | refine zcd ?_ | intro K' hK | (with_reducible refine zn hK ?_; clear hK) | fail | ((with_reducible first | apply zo1 | apply zo2 | apply o_guard rfl | apply x_cond | apply k_e1 rfl | apply k_e2 rfl | apply k_e0 rfl | apply k_e3 rfl | apply k_e4 rfl); (case he => exact ez1 @size_mk); (try case hok => exact ezO); all_goals try (intro hb; (try simp only [hbs, reduceCtorEq] at hb); try exact ezX)) | ((with_reducible apply o_undef rfl); (case hb => exact ez0)))
          all_goals exact sw_flat rfl rfl ⟨by congr 1; unfold namedB; rw [hall, ← hs, List.length_cons]; simp [hc]; omega, rfl, rfl⟩
        · obtain ⟨i, hi⟩ : ∃ i, s.length - (m + 1) = i := ⟨_, rfl⟩
          rw [hi] at hall ⊢
          have his : i < s.length := by omega
          obtain ⟨x, hx⟩ : ∃ x, s[i] = x := ⟨_, rfl⟩
          have hce : lget (bv s) i = some (.int .u8 x.toNat) := by rw [lget_eq, bv_get his, hx]
          have hnx : (i : Int) + 1 = ((s.length - m : Nat) : Int) := by omega
          have h8 := chr8 x
          cases hch : chrB x
          · have hno := named_no his (by rw [hx]; exact hch)
            have hF := h8.2 hch
            (repeat' first | refine zcd ?_ | intro K' hK | (with_reducible refine zn hK ?_; clear hK) | fail | ((with_reducible first | apply zo1 | apply zo2 | apply o_guard rfl | apply x_cond | apply k_e1 rfl | apply k_e2 rfl | apply k_e0 rfl | apply k_e3 rfl | apply k_e4 rfl); (case he => exact ez4 @size_mk hce @b_or32 @b_and64); (try case hok => exact ezO); all_goals try (intro hb; (try simp only [hbs, reduceCtorEq] at hb); try exact ezX)) | ((with_reducible apply o_undef rfl); (case hb => exact ez0)))
            all_goals exact sw_flat rfl rfl ⟨by rw [hno], rfl, rfl⟩
          · have hF : ¬ _ := fun hh => by have := h8.1 hh; rw [hch] at this; cases this
            have hall2 : (s.take (s.length - m)).all chrB = true := by
              rw [show s.length - m = i + 1 from by omega, List.take_succ_eq_append_getElem his, List.all_append, hall, hx]
              simp [hch]
            (repeat' first | refine zcd ?_ | intro K' hK | (with_reducible refine zn hK ?_; clear hK) | fail | ((with_reducible first | apply zo1 | apply zo2 | apply o_guard rfl | apply x_cond | apply k_e1 rfl | apply k_e2 rfl | apply k_e0 rfl | apply k_e3 rfl | apply k_e4 rfl); (case he => exact ez4 @size_mk hce @b_or32 @b_and64); (try case hok => exact ezO); all_goals try (intro hb; (try simp only [hbs, reduceCtorEq] at hb); try exact ezX)) | ((with_reducible apply o_undef rfl); (case hb => exact ez0)))
            all_goals exact k_round m (by omega) ⟨⟨rfl, rfl⟩, by omega, by simp (disch := first | assumption | omega | rfl | decide) only [go_sem, seval, tys]; rw [hnx], hall2⟩
    · have hlen : (c :: r).length = r.length + 1 := rfl
      have hno : namedB (c :: r) = false := by unfold namedB; rw [show decide ((c :: r).length ≤ 16) = false from decide_eq_false hl]; rfl
      (repeat' first | refine zcd ?_ | intro K' hK | (with_reducible refine zn hK ?_; clear hK) | fail | ((with_reducible first | apply zo1 | apply zo2 | apply o_guard rfl | apply x_cond | apply k_e1 rfl | apply k_e2 rfl | apply k_e0 rfl | apply k_e3 rfl | apply k_e4 rfl); (case he => exact ez1 @size_mk); (try case hok => exact ezO); all_goals try (intro hb; (try simp only [hbs, reduceCtorEq] at hb); try exact ezX)) | ((with_reducible apply o_undef rfl); (case hb => exact ez0)))
      all_goals exact sw_flat rfl rfl ⟨by rw [hno], rfl, rfl⟩
end Go.Proofs.Ytkngdfbibffdcaa.Ce
namespace Go.Proofs.Ytkngdfbibffdcaa.Ce
open Go.RowKit
variable (k d cl : Nat) (h : Hp) (n : Nat)
theorem nz_ev (x : Int) : SQ k (d + 1) cl 79 [.int .i64 x] h n fun v h' n' => v = .bool (x != 0) ∧ h' = h ∧ n' = n := by
  refine enter Try.func79 (by kernel_rfl) rfl (by kernel_rfl) rfl rfl rfl ?_
  (repeat' first | refine zcd ?_ | intro K' hK | (with_reducible refine zn hK ?_; clear hK) | fail | ((with_reducible first | apply zo1 | apply zo2 | apply o_guard rfl | apply x_cond | apply k_e1 rfl | apply k_e2 rfl | apply k_e0 rfl | apply k_e3 rfl | apply k_e4 rfl); (case he => exact ez0); (try case hok => exact ezO); all_goals try (intro hb; (try simp only [hbs, reduceCtorEq] at hb); try exact ezX)) | ((with_reducible apply o_undef rfl); (case hb => exact ez0)))
  all_goals exact sw_flat rfl rfl ⟨rfl, rfl, rfl⟩
theorem within_ev (x y : Int) : SQ k (d + 1) cl 74 [.int .i64 x, .int .i64 y] h n fun v h' n' => v = .bool (decide (0 ≤ x ∧ x < y)) ∧ h' = h ∧ n' = n := by
  refine enter Try.func74 (by kernel_rfl) rfl (by kernel_rfl) rfl rfl rfl ?_
  (repeat' first | refine zcd ?_ | intro K' hK | (with_reducible refine zn hK ?_; clear hK) | fail | ((with_reducible first | apply zo1 | apply zo2 | apply o_guard rfl | apply x_cond | apply k_e1 rfl | apply k_e2 rfl | apply k_e0 rfl | apply k_e3 rfl | apply k_e4 rfl); (case he => exact ez0); (try case hok => exact ezO); all_goals try (intro hb; (try simp only [hbs, reduceCtorEq] at hb); try exact ezX)) | ((with_reducible apply o_undef rfl); (case hb => exact ez0)))
  all_goals exact sw_flat rfl rfl ⟨by congr 1; first | (rw [eq_comm, decide_eq_true_eq]; omega) | (rw [eq_comm, decide_eq_false_iff_not]; omega) | (rw [Bool.eq_iff_iff]; simp only [decide_eq_true_eq]; omega), rfl, rfl⟩
theorem kindex_ev (hk : 30000 ≤ k) (A : Option Addr) (l : List Int) (c : Nat) (hr : RdH h n A (iv l)) (hl : l.length ≤ 100) :
    SQ k (d + 2) cl 80 [.slice A l.length c, .func (.func 79) ⟨[]⟩ ⟨[]⟩] h n fun v h' n' => ∃ r : Int, v = .int .i64 r ∧ (0 ≤ r ↔ l.all (· == 0) = false) ∧ h' = h ∧ n' = n := by
  refine enter Try.func80 (by kernel_rfl) rfl (by kernel_rfl) rfl rfl rfl ?_
  (repeat' first | refine zcd ?_ | intro K' hK | (with_reducible refine zn hK ?_; clear hK) | fail | ((with_reducible first | apply zo1 | apply zo2 | apply o_guard rfl | apply x_cond | apply k_e1 rfl | apply k_e2 rfl | apply k_e0 rfl | apply k_e3 rfl | apply k_e4 rfl); (case he => exact ez0); (try case hok => exact ezO); all_goals try (intro hb; (try simp only [hbs, reduceCtorEq] at hb); try exact ezX)) | ((with_reducible apply o_undef rfl); (case hb => exact ez0)))
  refine x_loopF [4, 5, 8, 9, 10, 11, 12, 13, 14, 15, 16, 17, 18] [8] (fun m vs => m ≤ l.length ∧ vs = [.int .i64 ((l.length - m : Nat) : Int)] ∧ (l.take (l.length - m)).all (· == 0) = true) l.length rfl (by omega) ⟨Nat.le_refl _, by simp (disch := first | assumption | omega | rfl | decide) only [go_sem, seval, tys]; rw [Nat.sub_self]; rfl, by rw [Nat.sub_self]; rfl⟩ ?_
  rintro m g _ ⟨hm, rfl, hall⟩
  rcases m with _ | m
  · rw [Nat.sub_zero, List.take_length] at hall
    (repeat' first | refine zcd ?_ | intro K' hK | (with_reducible refine zn hK ?_; clear hK) | fail | ((with_reducible first | apply zo1 | apply zo2 | apply o_guard rfl | apply x_cond | apply k_e1 rfl | apply k_e2 rfl | apply k_e0 rfl | apply k_e3 rfl | apply k_e4 rfl); (case he => exact ez0); (try case hok => exact ezO); all_goals try (intro hb; (try simp only [hbs, reduceCtorEq] at hb); try exact ezX)) | ((with_reducible apply o_undef rfl); (case hb => exact ez0)))
    all_goals exact sw_flat rfl rfl ⟨_, rfl, by rw [hall]; simp, rfl, rfl⟩
  · obtain ⟨i, hi⟩ : ∃ i, l.length - (m + 1) = i := ⟨_, rfl⟩
    rw [hi] at hall ⊢
    have hil : i < l.length := by omega
    obtain ⟨id, off, rfl, hid, hce⟩ := int_at hr hil
    obtain ⟨x, hx⟩ : ∃ x, l[i] = x := ⟨_, rfl⟩
    rw [hx] at hce
    have hnx : (i : Int) + 1 = ((l.length - m : Nat) : Int) := by omega
    by_cases hx0 : x = 0
    · have hxb : (x != 0) = false := by simp [hx0]
      have hall2 : (l.take (l.length - m)).all (· == 0) = true := by
        rw [show l.length - m = i + 1 from by omega, List.take_succ_eq_append_getElem hil, List.all_append, hall, hx]
        simp [hx0]
      (repeat' first | refine zcd ?_ | intro K' hK | (with_reducible refine zn hK ?_; clear hK) | ((with_reducible apply o_callV (g := 79) w_none); (case hx => exact ez0); (case ha => exact ez0); (case hs => exact nz_ev ..); (case' hk => rintro _ h' n' ⟨rfl, rfl, rfl⟩)) | ((with_reducible first | apply zo1 | apply zo2 | apply o_guard rfl | apply x_cond | apply k_e1 rfl | apply k_e2 rfl | apply k_e0 rfl | apply k_e3 rfl | apply k_e4 rfl); (case he => exact ez2 hce hxb); (try case hok => exact ezO); all_goals try (intro hb; (try simp only [hbs, reduceCtorEq] at hb); try exact ezX)) | ((with_reducible apply o_undef rfl); (case hb => exact ez0)))
      exact k_round m (by omega) ⟨⟨rfl, rfl⟩, by omega, by simp (disch := first | assumption | omega | rfl | decide) only [go_sem, seval, tys]; rw [hnx], hall2⟩
    · have hxb : (x != 0) = true := by simpa using hx0
      have hno : l.all (· == 0) = false := by
        rw [List.all_eq_false]
        exact ⟨x, by rw [← hx]; exact List.getElem_mem _, by simpa using hx0⟩
      (repeat' first | refine zcd ?_ | intro K' hK | (with_reducible refine zn hK ?_; clear hK) | ((with_reducible apply o_callV (g := 79) w_none); (case hx => exact ez0); (case ha => exact ez0); (case hs => exact nz_ev ..); (case' hk => rintro _ h' n' ⟨rfl, rfl, rfl⟩)) | ((with_reducible first | apply zo1 | apply zo2 | apply o_guard rfl | apply x_cond | apply k_e1 rfl | apply k_e2 rfl | apply k_e0 rfl | apply k_e3 rfl | apply k_e4 rfl); (case he => exact ez2 hce hxb); (try case hok => exact ezO); all_goals try (intro hb; (try simp only [hbs, reduceCtorEq] at hb); try exact ezX)) | ((with_reducible apply o_undef rfl); (case hb => exact ez0)))
      exact sw_flat rfl rfl ⟨_, rfl, by rw [hno]; simp, rfl, rfl⟩
theorem contains_ev (hk : 30000 ≤ k) (A : Option Addr) (l : List Int) (c : Nat) (hr : RdH h n A (iv l)) (hl : l.length ≤ 100) :
    SQ k (d + 3) cl 78 [.slice A l.length c, .func (.func 79) ⟨[]⟩ ⟨[]⟩] h n fun v h' n' => v = .bool !(l.all (· == 0)) ∧ h' = h ∧ n' = n := by
  refine enter Try.func78 (by kernel_rfl) rfl (by kernel_rfl) rfl rfl rfl ?_
  (repeat' first | refine zcd ?_ | intro K' hK | (with_reducible refine zn hK ?_; clear hK) | ((with_reducible apply o_callF (g := 80) w_none); (case ha => exact ez0); (case hs => ((with_reducible apply kindex_ev (l := l)); (case hk => exact hk); (case hr => exact ezD hr); (case hl => exact hl))); (case' hk => rintro _ h' n' ⟨r0, rfl, hr0, rfl, rfl⟩)) | ((with_reducible first | apply zo1 | apply zo2 | apply o_guard rfl | apply x_cond | apply k_e1 rfl | apply k_e2 rfl | apply k_e0 rfl | apply k_e3 rfl | apply k_e4 rfl); (case he => exact ez0); (try case hok => exact ezO); all_goals try (intro hb; (try simp only [hbs, reduceCtorEq] at hb); try exact ezX)) | ((with_reducible apply o_undef rfl); (case hb => exact ez0)))
  all_goals exact sw_flat rfl rfl ⟨by congr 1; cases hb : l.all (· == 0) <;> rw [hb] at hr0 <;> simp at hr0 ⊢ <;> omega, rfl, rfl⟩
theorem zero_ev (hk : 30000 ≤ k) (A : Option Addr) (l : List Int) (m c : Nat) (hm : m = l.length) (hr : RdH h n A (iv l)) (hl : l.length ≤ 100) :
    SQ k (d + 4) cl 75 [.slice A m c] h n fun v h' n' => v = .bool (l.all (· == 0)) ∧ h' = h ∧ n' = n := by
  subst hm
  refine enter Try.func75 (by kernel_rfl) rfl (by kernel_rfl) rfl rfl rfl ?_
  (repeat' first | refine zcd ?_ | intro K' hK | (with_reducible refine zn hK ?_; clear hK) | ((with_reducible apply o_callF (g := 78) w_none); (case ha => exact ez0); (case hs => ((with_reducible apply contains_ev (l := l)); (case hk => exact hk); (case hr => exact ezD hr); (case hl => exact hl))); (case' hk => rintro _ h' n' ⟨rfl, rfl, rfl⟩)) | ((with_reducible first | apply zo1 | apply zo2 | apply o_guard rfl | apply x_cond | apply k_e1 rfl | apply k_e2 rfl | apply k_e0 rfl | apply k_e3 rfl | apply k_e4 rfl); (case he => exact ez0); (try case hok => exact ezO); all_goals try (intro hb; (try simp only [hbs, reduceCtorEq] at hb); try exact ezX)) | ((with_reducible apply o_undef rfl); (case hb => exact ez0)))
  all_goals exact sw_flat rfl rfl ⟨by rw [Bool.not_not], rfl, rfl⟩
end Go.Proofs.Ytkngdfbibffdcaa.Ce
namespace Go.Proofs.Ytkngdfbibffdcaa.Ce
open Go.RowKit
theorem bytes_beq (s t : List UInt8) : ((⟨⟨s⟩⟩ : ByteArray) == ⟨⟨t⟩⟩) = decide (s = t) := by
  show ((⟨s⟩ : Array UInt8) == ⟨t⟩) = _
  rw [Bool.eq_iff_iff, decide_eq_true_eq, beq_iff_eq]
  simp
def Es (es : Array MapEntry) (ns : List (List UInt8)) : Prop := es.toList.map (fun e => (e.key, e.val)) = ns.map fun s => (Value.string ⟨⟨s⟩⟩, Value.bool true)
theorem find_in : ∀ (es : List MapEntry) (ns : List (List UInt8)) (s : List UInt8) (i : Nat), es.map (fun e => (e.key, e.val)) = ns.map (fun s => (Value.string ⟨⟨s⟩⟩, Value.bool true)) → s ∈ ns → ∃ j, Instr.findNow .string (.string ⟨⟨s⟩⟩) es i = some (some (j, .bool true))
  | [], [], s, i, _, h => by cases h
  | [], _ :: _, s, i, he, _ => by cases he
  | _ :: _, [], s, i, he, _ => by cases he
  | e :: es, t :: ns, s, i, he, h => by
    rw [List.map_cons, List.map_cons] at he
    injection he with h1 h2
    injection h1 with h3 h4
    unfold Instr.findNow
    rw [h3]
    have hs : Instr.sameNow .string (.string ⟨⟨s⟩⟩) (.string ⟨⟨t⟩⟩) = some (decide (s = t)) := by
      show some ((⟨⟨s⟩⟩ : ByteArray) == ⟨⟨t⟩⟩) = _
      rw [bytes_beq]
    rw [hs]
    by_cases hst : s = t
    · rw [decide_eq_true hst]
      exact ⟨i, by rw [h4]⟩
    · rw [decide_eq_false hst]
      exact find_in es ns s (i + 1) h2 ((List.mem_cons.1 h).resolve_left hst)
theorem find_out : ∀ (es : List MapEntry) (ns : List (List UInt8)) (s : List UInt8) (i : Nat), es.map (fun e => (e.key, e.val)) = ns.map (fun s => (Value.string ⟨⟨s⟩⟩, Value.bool true)) → s ∉ ns → Instr.findNow .string (.string ⟨⟨s⟩⟩) es i = some none
  | [], [], s, i, _, h => rfl
  | [], _ :: _, s, i, he, _ => by cases he
  | _ :: _, [], s, i, he, _ => by cases he
  | e :: es, t :: ns, s, i, he, h => by
    rw [List.map_cons, List.map_cons] at he
    injection he with h1 h2
    injection h1 with h3 h4
    unfold Instr.findNow
    rw [h3]
    have hs : Instr.sameNow .string (.string ⟨⟨s⟩⟩) (.string ⟨⟨t⟩⟩) = some (decide (s = t)) := by
      show some ((⟨⟨s⟩⟩ : ByteArray) == ⟨⟨t⟩⟩) = _
      rw [bytes_beq]
    rw [hs, decide_eq_false (fun e => h (by rw [e]; exact List.mem_cons_self))]
    exact find_out es ns s (i + 1) h2 fun hm => h (List.mem_cons_of_mem _ hm)
theorem prun_check (e : Bool) (s : List UInt8) : prun Try.prog (Instr.checkKey e 10000 9 (.string ⟨⟨s⟩⟩)) = some () := by
  unfold Instr.checkKey
  rw [prun_bd, prun_under Try.underlying9]
  rfl
theorem prun_find (es : List MapEntry) (s : List UInt8) (r : Option (Nat × Value)) (h : Instr.findNow .string (.string ⟨⟨s⟩⟩) es 0 = some r) : prun Try.prog (Instr.findKey 9 (.string ⟨⟨s⟩⟩) es) = some r := by
  unfold Instr.findKey
  rw [prun_bd, prun_under Try.underlying9]
  simp only [Option.bind_some]
  rw [h]
  rfl
theorem mapOf_same (h : Hp) (id : Nat) (es : Array MapEntry) (c : Nat) : mapOf (h.set id (.mp es c)) id = some (es, c) := by
  unfold mapOf
  rw [Hp.get_same]
  rfl
theorem mapOf_ne2 (h : Hp) {id id' : Nat} (x : AObj) (e : id' ≠ id) : mapOf (h.set id x) id' = mapOf h id' := by
  unfold mapOf
  rw [Hp.get_ne h x e]
variable {h : Hp} {n : Nat}
theorem m_look {id c : Nat} {es : Array MapEntry} {ns : List (List UInt8)} {s : List UInt8} (hm : mapOf h id = some (es, c)) (he : Es es ns) : mLookup Try.prog 137 (.map (some id)) (.string ⟨⟨s⟩⟩) false h n = some ⟨.bool (decide (s ∈ ns)), h, n, [id], []⟩ := by
  have hg : prun Try.prog (Ce.mapGet 9 4 (.string ⟨⟨s⟩⟩) es) = some (.bool (decide (s ∈ ns)), decide (s ∈ ns)) := by
    unfold Ce.mapGet
    rw [prun_bd, prun_check]
    simp only [Option.bind_some]
    rw [prun_bd]
    by_cases hs : s ∈ ns
    · obtain ⟨j, hj⟩ := find_in es.toList ns s 0 he hs
      rw [prun_find _ _ _ hj, decide_eq_true hs]
      rfl
    · rw [prun_find _ _ _ (find_out es.toList ns s 0 he hs), decide_eq_false hs]
      simp only [Option.bind_some]
      rw [prun_bd, show prun Try.prog (zeroValue 4) = some (.bool false) from by kernel_rfl]
      rfl
  unfold mLookup
  dsimp only
  rw [hm]
  simp only [Option.bind_some]
  rw [show tyMap Try.prog 137 = some (9, 4) from by kernel_rfl]
  simp only [Option.bind_some]
  rw [hg]
  rfl
theorem m_put {lim id c : Nat} {es : Array MapEntry} {ns : List (List UInt8)} {s : List UInt8} (hl : lim ≤ id) (hm : mapOf h id = some (es, c)) (he : Es es ns) (hs : s ∉ ns) :
    mMapUpdate Try.prog lim 137 (.map (some id)) (.string ⟨⟨s⟩⟩) (.bool true) h n = some ⟨undef, h.set id (.mp (es.push ⟨.string ⟨⟨s⟩⟩, .bool true, c⟩) (c + 1)), n, [], [id]⟩ := by
  have hg : prun Try.prog (Ce.mapPut 9 (.string ⟨⟨s⟩⟩) (.bool true) es c) = some (es.push ⟨.string ⟨⟨s⟩⟩, .bool true, c⟩, c + 1) := by
    unfold Ce.mapPut
    rw [prun_bd, prun_check]
    simp only [Option.bind_some]
    rw [prun_bd, prun_find _ _ _ (find_out es.toList ns s 0 he hs)]
    rfl
  unfold mMapUpdate
  dsimp only
  rw [hm]
  simp only [Option.bind_some]
  rw [show tyMap Try.prog 137 = some (9, 4) from by kernel_rfl]
  simp only [Option.bind_some]
  rw [show (scal (.string ⟨⟨s⟩⟩) && flat1 (.bool true) && Nat.ble lim id) = true from by rw [ble_t hl]; rfl]
  simp only [cond_true]
  rw [hg]
  rfl
theorem Es.push {es : Array MapEntry} {ns : List (List UInt8)} {s : List UInt8} {c : Nat} (he : Es es ns) : Es (es.push ⟨.string ⟨⟨s⟩⟩, .bool true, c⟩) (ns ++ [s]) := by
  unfold Es at *
  simp only [Array.toList_push, List.map_append, he, List.map_cons, List.map_nil]
end Go.Proofs.Ytkngdfbibffdcaa.Ce
namespace Go.Proofs.Ytkngdfbibffdcaa.Ce
open Go.RowKit
def fldB (i : Nat) (f : List UInt8 × Int) : Bool := namedB f.1 && decide (0 ≤ f.2 ∧ f.2 < i)
def fldsB (i : Nat) (fs : List (List UInt8 × Int)) : Bool := fs.all (fldB i) && decide ((fs.map (·.1)).Nodup)
def fineB (m i : Nat) (t : Tp) : Bool :=
  if t.kd = 1 ∨ t.kd = 2 ∨ t.kd = 3 then decide (t.el = 0 ∧ t.ln = 0 ∧ t.fs.length = 0)
  else if t.kd = 4 ∨ t.kd = 7 then decide (0 ≤ t.el ∧ t.el < m ∧ t.ln = 0 ∧ t.fs.length = 0)
  else if t.kd = 6 then decide (0 ≤ t.el ∧ t.el < i ∧ 1 ≤ t.ln ∧ t.ln ≤ 16 ∧ t.fs.length = 0)
  else if t.kd = 5 then fldsB i t.fs && decide (t.el = 0 ∧ t.ln = 0 ∧ 0 < t.fs.length ∧ t.fs.length ≤ 8)
  else false
theorem fineB_123 {m i : Nat} {t : Tp} (h : t.kd = 1 ∨ t.kd = 2 ∨ t.kd = 3) : fineB m i t = decide (t.el = 0 ∧ t.ln = 0 ∧ t.fs.length = 0) := by unfold fineB; rw [if_pos h]
theorem fineB_47 {m i : Nat} {t : Tp} (h : t.kd = 4 ∨ t.kd = 7) : fineB m i t = decide (0 ≤ t.el ∧ t.el < m ∧ t.ln = 0 ∧ t.fs.length = 0) := by unfold fineB; rw [if_neg (by omega), if_pos h]
theorem fineB_6 {m i : Nat} {t : Tp} (h : t.kd = 6) : fineB m i t = decide (0 ≤ t.el ∧ t.el < i ∧ 1 ≤ t.ln ∧ t.ln ≤ 16 ∧ t.fs.length = 0) := by unfold fineB; rw [if_neg (by omega), if_neg (by omega), if_pos h]
theorem fineB_5 {m i : Nat} {t : Tp} (h : t.kd = 5) : fineB m i t = (fldsB i t.fs && decide (t.el = 0 ∧ t.ln = 0 ∧ 0 < t.fs.length ∧ t.fs.length ≤ 8)) := by unfold fineB; rw [if_neg (by omega), if_neg (by omega), if_neg (by omega), if_pos h]
theorem fineB_no {m i : Nat} {t : Tp} (h : ¬ (1 ≤ t.kd ∧ t.kd ≤ 7)) : fineB m i t = false := by unfold fineB; rw [if_neg (by omega), if_neg (by omega), if_neg (by omega), if_neg (by omega)]
theorem fldsB_no {i q : Nat} {fs : List (List UInt8 × Int)} (hq : q < fs.length) (h : fldB i fs[q] = false) : fldsB i fs = false := by
  unfold fldsB
  have : fs.all (fldB i) = false := by
    rw [List.all_eq_false]
    exact ⟨fs[q], List.getElem_mem _, by rw [h]; exact Bool.false_ne_true⟩
  rw [this, Bool.false_and]
theorem fldsB_dup {i q : Nat} {fs : List (List UInt8 × Int)} (hq : q < fs.length) (h : (fs[q]).1 ∈ (fs.take q).map (·.1)) : fldsB i fs = false := by
  unfold fldsB
  have : ¬ (fs.map (·.1)).Nodup := by
    intro hn
    have e : fs.map (·.1) = (fs.take q).map (·.1) ++ ((fs[q]).1 :: (fs.drop (q + 1)).map (·.1)) := by
      rw [← List.map_cons (f := fun x : List UInt8 × Int => x.1), List.getElem_cons_drop, ← List.map_append, List.take_append_drop]
    rw [e, List.nodup_append] at hn
    exact hn.2.2 _ h _ List.mem_cons_self rfl
  rw [decide_eq_false this, Bool.and_false]
section
variable {P : Program} {F : CallE} {lim : Nat} {ops l : List Oper} {f : Fm} {h : Hp} {n : Nat} {dst : Option Tmp} {ty : TypeId} {pos : String} {af : Array Edge} {KO : Fm → Hp → Nat → Prop}
theorem o_look {gd : Option (Nat × Bool)} {x y : Operand} {id c : Nat} {es : Array MapEntry} {ns : List (List UInt8)} {s : List UInt8} (hw : wantsF ops gd f = some true) (hx : lv f x = .map (some id)) (hy : lv f y = .string ⟨⟨s⟩⟩) (hm : mapOf h id = some (es, c)) (he : Es es ns)
    (hk : XO Try.prog F lim ops l (fput f dst (.bool (decide (s ∈ ns)))) h n KO) : XO Try.prog F lim ops (⟨dst, .lookup 137 x y false, ty, pos, af, gd⟩ :: l) f h n KO :=
  o_eff hw (by rw [a_lookup, hx, hy]; exact m_look hm he) (by simp [memOp]) hk
theorem o_mput {gd : Option (Nat × Bool)} {x y z : Operand} {id c : Nat} {es : Array MapEntry} {ns : List (List UInt8)} {s : List UInt8} (hw : wantsF ops gd f = some true) (hx : lv f x = .map (some id)) (hy : lv f y = .string ⟨⟨s⟩⟩) (hz : lv f z = .bool true) (hm : mapOf h id = some (es, c)) (he : Es es ns) (hs : s ∉ ns) (hl : lim ≤ id)
    (hk : XO Try.prog F lim ops l (fput f dst undef) (h.set id (.mp (es.push ⟨.string ⟨⟨s⟩⟩, .bool true, c⟩) (c + 1))) n KO) : XO Try.prog F lim ops (⟨dst, .mapUpdate 137 x y z, ty, pos, af, gd⟩ :: l) f h n KO :=
  o_eff hw (by rw [a_mapUpdate, hx, hy, hz]; exact m_put hl hm he hs) (ok_w hl rfl) hk
end
end Go.Proofs.Ytkngdfbibffdcaa.Ce
namespace Go.Proofs.Ytkngdfbibffdcaa.Ce
open Go.RowKit
variable (k d cl : Nat) (h : Hp) (n : Nat)
theorem pfine_a (hk : 30000 ≤ k) (A : Option Addr) (T : List Tp) (c : Nat) (hT : TabH h n A T) (i : Nat) (hi : i < T.length) (hl : T.length ≤ 100) (h5 : T[i].kd ≠ 5) :
    SQ k (d + 5) cl 70 [.slice A T.length c, .int .i64 i] h n fun v h' n' => v = .bool (fineB T.length i T[i]) ∧ h' = h ∧ n' = n := by
  obtain ⟨id, off, rfl, hid, ht4, ht0, ht1, ht2, ht3⟩ := hT.at_ hi
  have hfd := hT.fd _ (List.getElem_mem hi)
  have hbd := hT.bd _ (List.getElem_mem hi)
  obtain ⟨t, htt⟩ : ∃ t, T[i] = t := ⟨_, rfl⟩
  rw [htt] at h5 ht4 ht0 ht1 ht2 ht3 hfd hbd ⊢
  obtain ⟨kd, el, ln, fs, FA, fc⟩ := t
  dsimp only at h5 ht4 ht0 ht1 ht2 ht3 hfd
  refine enter Try.func70 (by kernel_rfl) rfl (by kernel_rfl) rfl rfl rfl ?_
  by_cases h123 : kd = 1 ∨ kd = 2 ∨ kd = 3
  · have hf : fineB T.length i ⟨kd, el, ln, fs, FA, fc⟩ = [el, ln, (fs.length : Int)].all (· == 0) := by
      rw [fineB_123 h123, Bool.eq_iff_iff]; simp only [decide_eq_true_eq, Bool.and_eq_true, List.all_cons, List.all_nil, Bool.and_true, beq_iff_eq]; try omega
    rcases h123 with rfl | rfl | rfl
    all_goals
      (repeat' first | refine zcd ?_ | intro K' hK | (with_reducible refine zn hK ?_; clear hK) | ((with_reducible apply o_callF (g := 75) w_none); (case ha => exact ez0); (case hs => ((with_reducible apply zero_ev (l := [el, ln, (fs.length : Int)])); (case hk => exact hk); (case hm => rfl); (case hr => exact RdH.row (by omega)); (case hl => simp))); (case' hk => rintro _ h' n' ⟨rfl, rfl, rfl⟩)) | ((with_reducible first | apply zo1 | apply zo2 | apply o_guard rfl | apply x_cond | apply k_e1 rfl | apply k_e2 rfl | apply k_e0 rfl | apply k_e3 rfl | apply k_e4 rfl); (case he => exact ez1 ht4); (try case hok => exact ezO); all_goals try (intro hb; (try simp only [hbs, reduceCtorEq] at hb); try exact ezX)) | ((with_reducible apply o_undef rfl); (case hb => exact ez0)))
      all_goals exact sw_flat rfl rfl ⟨by rw [hf]; simp only [List.all_cons, List.all_nil, Bool.and_true], rfl, rfl⟩
  · by_cases h47 : kd = 4 ∨ kd = 7
    · have hf : fineB T.length i ⟨kd, el, ln, fs, FA, fc⟩ = (decide (0 ≤ el ∧ el < (T.length : Int)) && [ln, (fs.length : Int)].all (· == 0)) := by
        rw [fineB_47 h47, Bool.eq_iff_iff]; simp only [decide_eq_true_eq, Bool.and_eq_true, List.all_cons, List.all_nil, Bool.and_true, beq_iff_eq]; try omega
      cases hw : decide (0 ≤ el ∧ el < (T.length : Int))
      all_goals
        rw [hw] at hf
        rcases h47 with rfl | rfl
        all_goals
          (repeat' first | refine zcd ?_ | intro K' hK | (with_reducible refine zn hK ?_; clear hK) | ((with_reducible apply o_callV (g := 74) w_none); (case hx => exact ez0); (case ha => exact ez0); (case hs => exact within_ev ..); (case' hk => rintro _ h' n' ⟨rfl, rfl, rfl⟩)) | ((with_reducible apply o_callF (g := 75) w_none); (case ha => exact ez0); (case hs => ((with_reducible apply zero_ev (l := [ln, (fs.length : Int)])); (case hk => exact hk); (case hm => rfl); (case hr => exact RdH.row (by omega)); (case hl => simp))); (case' hk => rintro _ h' n' ⟨rfl, rfl, rfl⟩)) | ((with_reducible first | apply zo1 | apply zo2 | apply o_guard rfl | apply x_cond | apply k_e1 rfl | apply k_e2 rfl | apply k_e0 rfl | apply k_e3 rfl | apply k_e4 rfl); (case he => exact ez2 ht4 hw); (try case hok => exact ezO); all_goals try (intro hb; (try simp only [hbs, reduceCtorEq] at hb); try exact ezX)) | ((with_reducible apply o_undef rfl); (case hb => exact ez0)))
          all_goals exact sw_flat rfl rfl ⟨by rw [hf]; simp only [List.all_cons, List.all_nil, Bool.and_true, Bool.true_and, Bool.false_and], rfl, rfl⟩
    · by_cases h6 : kd = 6
      · have hf : fineB T.length i ⟨kd, el, ln, fs, FA, fc⟩ = (decide (0 ≤ el ∧ el < (i : Int)) && (decide (0 ≤ ln - 1 ∧ ln - 1 < 16) && [(fs.length : Int)].all (· == 0))) := by
          rw [fineB_6 h6, Bool.eq_iff_iff]; simp only [decide_eq_true_eq, Bool.and_eq_true, List.all_cons, List.all_nil, Bool.and_true, beq_iff_eq]; try omega
        subst h6
        cases hw : decide (0 ≤ el ∧ el < (i : Int))
        · rw [hw] at hf
          (repeat' first | refine zcd ?_ | intro K' hK | (with_reducible refine zn hK ?_; clear hK) | ((with_reducible apply o_callV (g := 74) w_none); (case hx => exact ez0); (case ha => exact ez0); (case hs => exact within_ev ..); (case' hk => rintro _ h' n' ⟨rfl, rfl, rfl⟩)) | ((with_reducible first | apply zo1 | apply zo2 | apply o_guard rfl | apply x_cond | apply k_e1 rfl | apply k_e2 rfl | apply k_e0 rfl | apply k_e3 rfl | apply k_e4 rfl); (case he => exact ez2 ht4 hw); (try case hok => exact ezO); all_goals try (intro hb; (try simp only [hbs, reduceCtorEq] at hb); try exact ezX)) | ((with_reducible apply o_undef rfl); (case hb => exact ez0)))
          all_goals exact sw_flat rfl rfl ⟨by rw [hf]; rfl, rfl, rfl⟩
        · rw [hw] at hf
          by_cases hlm : -9223372036854775807 ≤ ln ∧ ln ≤ 9223372036854775807
          · cases hw2 : decide (0 ≤ ln - 1 ∧ ln - 1 < 16)
            all_goals
              rw [hw2] at hf
              (repeat' first | refine zcd ?_ | intro K' hK | (with_reducible refine zn hK ?_; clear hK) | ((with_reducible apply o_callV (g := 74) w_none); (case hx => exact ez0); (case ha => exact ez0); (case hs => exact within_ev ..); (case' hk => rintro _ h' n' ⟨rfl, rfl, rfl⟩)) | ((with_reducible apply o_callF (g := 75) w_none); (case ha => exact ez0); (case hs => ((with_reducible apply zero_ev (l := [(fs.length : Int)])); (case hk => exact hk); (case hm => rfl); (case hr => exact RdH.row (by omega)); (case hl => simp))); (case' hk => rintro _ h' n' ⟨rfl, rfl, rfl⟩)) | ((with_reducible first | apply zo1 | apply zo2 | apply o_guard rfl | apply x_cond | apply k_e1 rfl | apply k_e2 rfl | apply k_e0 rfl | apply k_e3 rfl | apply k_e4 rfl); (case he => exact ez3 ht4 hw hw2); (try case hok => exact ezO); all_goals try (intro hb; (try simp only [hbs, reduceCtorEq] at hb); try exact ezX)) | ((with_reducible apply o_undef rfl); (case hb => exact ez0)))
              all_goals exact sw_flat rfl rfl ⟨by rw [hf]; simp only [List.all_cons, List.all_nil, Bool.and_true, Bool.true_and, Bool.false_and], rfl, rfl⟩
          · have e1 : ln = -9223372036854775808 := by have := hbd.2.2.1; unfold I64 at this; dsimp only at this; omega
            subst e1
            have hw2 : decide ((0 : Int) ≤ 9223372036854775807 ∧ (9223372036854775807 : Int) < 16) = false := rfl
            have hws : IntKind.wrap .i64 (-9223372036854775808 - 1) = 9223372036854775807 := rfl
            have hws2 : IntKind.wrap .i64 (-9223372036854775809) = 9223372036854775807 := rfl
            (repeat' first | refine zcd ?_ | intro K' hK | (with_reducible refine zn hK ?_; clear hK) | ((with_reducible apply o_callV (g := 74) w_none); (case hx => exact ez0); (case ha => exact ez0); (case hs => exact within_ev ..); (case' hk => rintro _ h' n' ⟨rfl, rfl, rfl⟩)) | ((with_reducible first | apply zo1 | apply zo2 | apply o_guard rfl | apply x_cond | apply k_e1 rfl | apply k_e2 rfl | apply k_e0 rfl | apply k_e3 rfl | apply k_e4 rfl); (case he => (intros; simp (disch := first | assumption | omega | rfl | decide) only [go_sem, seval, tys, ht4, hw, hws, hws2, (hw2)] <;> rfl)); (try case hok => exact ezO); all_goals try (intro hb; (try simp only [hbs, reduceCtorEq] at hb); try exact ezX)) | ((with_reducible apply o_undef rfl); (case hb => exact ez0)))
            all_goals first | exact absurd ‹True ∧ False› (fun h => h.2) | exact sw_flat rfl rfl ⟨by rw [hf]; rfl, rfl, rfl⟩
      · have hf : fineB T.length i ⟨kd, el, ln, fs, FA, fc⟩ = false := fineB_no (by dsimp only; omega)
        (repeat' first | refine zcd ?_ | intro K' hK | (with_reducible refine zn hK ?_; clear hK) | fail | ((with_reducible first | apply zo1 | apply zo2 | apply o_guard rfl | apply x_cond | apply k_e1 rfl | apply k_e2 rfl | apply k_e0 rfl | apply k_e3 rfl | apply k_e4 rfl); (case he => exact ez1 ht4); (try case hok => exact ezO); all_goals try (intro hb; (try simp only [hbs, reduceCtorEq] at hb); try exact ezX)) | ((with_reducible apply o_undef rfl); (case hb => exact ez0)))
        all_goals exact sw_flat rfl rfl ⟨by rw [hf], rfl, rfl⟩
end Go.Proofs.Ytkngdfbibffdcaa.Ce
namespace Go.Proofs.Ytkngdfbibffdcaa.Ce
open Go.RowKit
def sumF (now : List Int) (fs : List (List UInt8 × Int)) : Int := fs.foldl (fun a f => a + now.getD f.2.toNat 0) 0
def wHead (below now : List Int) (t : Tp) : Int := 1 + (if t.kd = 4 then below.getD t.el.toNat 0 else if t.kd = 7 then 16 * below.getD t.el.toNat 0 else if t.kd = 6 then t.ln * now.getD t.el.toNat 0 else 0)
def wOne (below now : List Int) (t : Tp) : Int := min (wHead below now t + sumF now t.fs) 5001
def wRow (below : List Int) (T : List Tp) : List Int := T.foldl (fun now t => now ++ [wOne below now t]) []
def zeros (m : Nat) : List Int := List.replicate m 0
def wD (T : List Tp) : Nat → List Int
  | 0 => wRow (zeros T.length) T
  | d + 1 => wRow (wD T d) T
theorem wRow_snoc (below : List Int) (T : List Tp) (t : Tp) : wRow below (T ++ [t]) = wRow below T ++ [wOne below (wRow below T) t] := by unfold wRow; rw [List.foldl_append]; rfl
theorem wRow_length' (below : List Int) : ∀ (T : List Tp) (a : List Int), (T.foldl (fun now t => now ++ [wOne below now t]) a).length = a.length + T.length
  | [], a => by simp
  | t :: T, a => by rw [List.foldl_cons, wRow_length' below T, List.length_append, List.length_cons]; simp; omega
theorem wRow_length (below : List Int) (T : List Tp) : (wRow below T).length = T.length := by unfold wRow; rw [wRow_length']; simp
theorem wRow_take (below : List Int) {T : List Tp} {i : Nat} (hi : i < T.length) : wRow below (T.take (i + 1)) = wRow below (T.take i) ++ [wOne below (wRow below (T.take i)) T[i]] := by rw [List.take_succ_eq_append_getElem hi, wRow_snoc]
theorem wRow_tlen (below : List Int) {T : List Tp} {i : Nat} (hi : i ≤ T.length) : (wRow below (T.take i)).length = i := by rw [wRow_length, List.length_take]; omega
def Bnd (l : List Int) : Prop := ∀ x ∈ l, 0 ≤ x ∧ x ≤ 5001
theorem Bnd.getD {l : List Int} (h : Bnd l) (i : Nat) : 0 ≤ l.getD i 0 ∧ l.getD i 0 ≤ 5001 := by
  rw [List.getD_eq_getElem?_getD]
  by_cases hi : i < l.length
  · rw [List.getElem?_eq_getElem hi]; exact h _ (List.getElem_mem _)
  · rw [List.getElem?_eq_none (by omega)]; simp
theorem zeros_bnd (m : Nat) : Bnd (zeros m) := fun x hx => by rw [List.eq_of_mem_replicate hx]; omega
theorem sumF_bnd {now : List Int} (h : Bnd now) (fs : List (List UInt8 × Int)) : 0 ≤ sumF now fs ∧ sumF now fs ≤ 5001 * fs.length := by
  have key : ∀ (fs : List (List UInt8 × Int)) (a : Int), a ≤ fs.foldl (fun a f => a + now.getD f.2.toNat 0) a ∧ fs.foldl (fun a f => a + now.getD f.2.toNat 0) a ≤ a + 5001 * fs.length := by
    intro fs
    induction fs with
    | nil => intro a; simp
    | cons f fs ih =>
      intro a
      have h1 := ih (a + now.getD f.2.toNat 0)
      have h2 := h.getD f.2.toNat
      rw [List.foldl_cons, List.length_cons]
      omega
  have := key fs 0
  unfold sumF
  omega
theorem sumF_snoc (now : List Int) (fs : List (List UInt8 × Int)) (f : List UInt8 × Int) : sumF now (fs ++ [f]) = sumF now fs + now.getD f.2.toNat 0 := by unfold sumF; rw [List.foldl_append]; rfl
theorem sumF_take (now : List Int) {fs : List (List UInt8 × Int)} {q : Nat} (hq : q < fs.length) : sumF now (fs.take (q + 1)) = sumF now (fs.take q) + now.getD (fs[q]).2.toNat 0 := by rw [List.take_succ_eq_append_getElem hq, sumF_snoc]
def Fine (T : List Tp) : Prop := ∀ i (hi : i < T.length), fineB T.length i T[i] = true
theorem fine_len {m i : Nat} {t : Tp} (h : fineB m i t = true) : t.fs.length ≤ 8 := by
  unfold fineB at h
  split at h
  · simp at h; rw [h.2.2]; simp
  · split at h
    · simp at h; rw [h.2.2.2]; simp
    · split at h
      · simp at h; rw [h.2.2.2.2]; simp
      · split at h
        · simp at h; exact h.2.2.2.2
        · cases h
theorem fine_nofs {m i : Nat} {t : Tp} (h : fineB m i t = true) (h5 : t.kd ≠ 5) : t.fs = [] := by
  unfold fineB at h
  split at h
  · simp at h; exact h.2.2
  · split at h
    · simp at h; exact h.2.2.2
    · split at h
      · simp at h; exact h.2.2.2.2
      · cases h
theorem fine_el {m i : Nat} {t : Tp} (h : fineB m i t = true) (hk : t.kd = 4 ∨ t.kd = 7) : 0 ≤ t.el ∧ t.el < m := by
  rw [fineB_47 hk] at h; simp at h; omega
theorem fine_arr {m i : Nat} {t : Tp} (h : fineB m i t = true) (hk : t.kd = 6) : 0 ≤ t.el ∧ t.el < i ∧ 1 ≤ t.ln ∧ t.ln ≤ 16 := by
  rw [fineB_6 hk] at h; simp at h; omega
theorem fine_fld {m i : Nat} {t : Tp} (h : fineB m i t = true) {q : Nat} (hq : q < t.fs.length) : 0 ≤ (t.fs[q]).2 ∧ (t.fs[q]).2 < i := by
  by_cases h5 : t.kd = 5
  · rw [fineB_5 h5, Bool.and_eq_true] at h
    have h1 := h.1
    unfold fldsB at h1
    rw [Bool.and_eq_true, List.all_eq_true] at h1
    have := h1.1 _ (List.getElem_mem hq)
    unfold fldB at this
    simp at this
    exact this.2
  · rw [fine_nofs h h5] at hq; simp at hq
theorem wHead_bnd {m i : Nat} {below now : List Int} {t : Tp} (hb : Bnd below) (hn : Bnd now) (hf : fineB m i t = true) : 1 ≤ wHead below now t ∧ wHead below now t ≤ 100000 := by
  have h1 := hb.getD t.el.toNat
  have h2 := hn.getD t.el.toNat
  unfold wHead
  split
  · omega
  · split
    · omega
    · split
      · rename_i h6
        have h3 := fine_arr hf h6
        have e1 : 0 ≤ t.ln * now.getD t.el.toNat 0 := Int.mul_nonneg (by omega) h2.1
        have e2 : t.ln * now.getD t.el.toNat 0 ≤ 16 * 5001 := Int.mul_le_mul h3.2.2.2 h2.2 h2.1 (by omega)
        omega
      · omega
theorem wOne_bnd {m i : Nat} {below now : List Int} {t : Tp} (hb : Bnd below) (hn : Bnd now) (hf : fineB m i t = true) : 1 ≤ wOne below now t ∧ wOne below now t ≤ 5001 := by
  have h1 := wHead_bnd hb hn hf
  have h2 := sumF_bnd hn t.fs
  unfold wOne
  omega
theorem wRow_bnd {below : List Int} {T : List Tp} (hb : Bnd below) (hf : Fine T) : ∀ i, i ≤ T.length → Bnd (wRow below (T.take i))
  | 0, _ => fun x hx => by simp [wRow] at hx
  | i + 1, hi => by
    have ih := wRow_bnd hb hf i (by omega)
    rw [wRow_take below (by omega)]
    intro x hx
    rcases List.mem_append.1 hx with hx | hx
    · exact ih x hx
    · have hx' := List.mem_singleton.1 hx
      have := wOne_bnd hb ih (hf i (by omega))
      rw [hx']; omega
theorem wRow_bnd' {below : List Int} {T : List Tp} (hb : Bnd below) (hf : Fine T) : Bnd (wRow below T) := by have := wRow_bnd hb hf T.length (Nat.le_refl _); rwa [List.take_length] at this
theorem wD_bnd {T : List Tp} (hf : Fine T) : ∀ d, Bnd (wD T d)
  | 0 => wRow_bnd' (zeros_bnd _) hf
  | d + 1 => wRow_bnd' (wD_bnd hf d) hf
theorem wD_length (T : List Tp) : ∀ d, (wD T d).length = T.length
  | 0 => wRow_length _ _
  | d + 1 => wRow_length _ _
def pad (below : List Int) (T : List Tp) (i : Nat) : List Int := wRow below (T.take i) ++ zeros (T.length - i)
theorem pad_zero (below : List Int) (T : List Tp) : pad below T 0 = zeros T.length := by simp [pad, wRow]
theorem pad_all (below : List Int) (T : List Tp) : pad below T T.length = wRow below T := by simp [pad, zeros]
theorem pad_length (below : List Int) {T : List Tp} {i : Nat} (hi : i ≤ T.length) : (pad below T i).length = T.length := by unfold pad zeros; rw [List.length_append, wRow_tlen below hi, List.length_replicate]; omega
theorem pad_getD (below : List Int) {T : List Tp} {i j : Nat} (hi : i ≤ T.length) (hj : j < i) : (pad below T i).getD j 0 = (wRow below (T.take i)).getD j 0 := by
  unfold pad
  rw [List.getD_eq_getElem?_getD, List.getElem?_append_left (by rw [wRow_tlen below hi]; exact hj), List.getD_eq_getElem?_getD]
theorem pad_succ (below : List Int) {T : List Tp} {i : Nat} (hi : i < T.length) : (pad below T i).set i (wOne below (wRow below (T.take i)) T[i]) = pad below T (i + 1) := by
  unfold pad zeros
  have hl := wRow_tlen below (Nat.le_of_lt hi)
  rw [List.set_append_right _ _ (by omega), hl, Nat.sub_self, wRow_take below hi, show T.length - i = (T.length - (i + 1)) + 1 from by omega, List.replicate_succ]
  simp
theorem iv_set (l : List Int) (i : Nat) (x : Int) : (iv l).set i (.int .i64 x) = iv (l.set i x) := by unfold iv; rw [List.map_set]
theorem iv_lget {l : List Int} {i : Nat} (hi : i < l.length) : lget (iv l) i = some (.int .i64 (l.getD i 0)) := by
  rw [lget_eq, iv_get hi, List.getD_eq_getElem?_getD, List.getElem?_eq_getElem hi]; rfl
end Go.Proofs.Ytkngdfbibffdcaa.Ce
namespace Go.Proofs.Ytkngdfbibffdcaa.Ce
open Go.RowKit
def Blk (O : Value) (b : Nat) : Prop := ∀ len c, O ≠ .slice (some ⟨b, 0, none⟩) len c
theorem blk_new {b m len c : Nat} (h : b < m) : Blk (.slice (some ⟨m, 0, none⟩) len c) b := by
  intro len2 c2 hh
  injection hh with hh
  injection hh with hh
  injection hh with hh
  omega
def IntsV (l : List Int) (h : Hp) (n : Nat) (v : Value) (h' : Hp) (n' : Nat) : Prop :=
  (l = [] ∧ v = .slice none 0 0 ∧ h' = h ∧ n' = n) ∨ (l ≠ [] ∧ v = .slice (some ⟨n, 0, none⟩) l.length l.length ∧ h' = h.set n (.row 3 false (iv l)) ∧ n' = n + 1)
def OwnI (l : List Int) (O : Value) (h' : Hp) (lo n' : Nat) : Prop :=
  (l = [] ∧ O = .slice none 0 0) ∨ (l ≠ [] ∧ ∃ id, lo ≤ id ∧ id < n' ∧ O = .slice (some ⟨id, 0, none⟩) l.length l.length ∧ rowOf h' id = some (3, false, iv l))
theorem iv_app1 (l : List Int) (x : Int) : iv (l ++ [x]) = iv l ++ [.int .i64 x] := by simp [iv]
def bw (l : List Bool) : List Value := l.map Value.bool
theorem bw_length (l : List Bool) : (bw l).length = l.length := by simp [bw]
theorem mk_falses (m : Nat) : (List.replicate m [Value.bool false]).flatten = bw (List.replicate m false) := by unfold bw; rw [List.map_replicate]; induction m with | zero => rfl | succ m ih => rw [List.replicate_succ, List.flatten_cons, ih, List.replicate_succ]; rfl
theorem bw_lget {l : List Bool} {i : Nat} {b : Bool} (hi : l[i]? = some b) : lget (bw l) i = some (.bool b) := by rw [lget_eq]; unfold bw; rw [List.getElem?_map, hi]; rfl
theorem bw_set {l : List Bool} {i : Nat} (hi : i < l.length) : overAt i [Value.bool true] (bw l) = some (bw (l.set i true)) := by
  rw [overAt_one (by rw [bw_length]; exact hi)]
  unfold bw
  rw [List.map_set]
theorem sp_fix {P : Program} {F : CallE} {cl n : Nat} {g : FuncId} {ar : List Value} {h : Hp} {Φ : Value → Hp → Nat → Prop} (hs : Sp P F cl g ar h n Φ) : ∃ v h' n', Φ v h' n' ∧ Sp P F cl g ar h n fun v2 h2 n2 => v2 = v ∧ h2 = h' ∧ n2 = n' := by
  obtain ⟨hg, v, h', n', hr, hp⟩ := hs
  exact ⟨v, h', n', hp, hg, v, h', n', hr, rfl, rfl, rfl⟩
end Go.Proofs.Ytkngdfbibffdcaa.Ce
