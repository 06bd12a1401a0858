/- What a table says of kinds does not hang on where its fields lie. Plain. -/
import Derived.Test.YtgdokjfjmcleeaaMh
import Derived.Test.YtgdokjfjmcleeaaKo
namespace Go.Proofs.Ytgdokjfjmcleeaa.Ce
open Go.RowKit
set_option linter.unusedVariables false
set_option linter.unusedSimpArgs false

theorem dat_elim {t u : Tp} (h : t.dat = u.dat) : t.kd = u.kd ∧ t.el = u.el ∧ t.ln = u.ln ∧ t.fs = u.fs := by
  unfold Tp.dat at h
  injection h with d1 h
  injection h with d2 h
  injection h with d3 d4
  exact ⟨d1, d2, d3, d4⟩
theorem wOne_dat {b w : List Int} {t u : Tp} (h : t.dat = u.dat) : wOne b w t = wOne b w u := by
  obtain ⟨h1, h2, h3, h4⟩ := dat_elim h
  unfold wOne wHead
  rw [h1, h2, h3, h4]
theorem fineB_dat {m i : Nat} {t u : Tp} (h : t.dat = u.dat) : fineB m i t = fineB m i u := by
  obtain ⟨h1, h2, h3, h4⟩ := dat_elim h
  unfold fineB
  rw [h1, h2, h3, h4]
theorem foldl_dat {α : Type} {f : α → Tp → α} (hf : ∀ a t u, t.dat = u.dat → f a t = f a u) : ∀ (T U : List Tp) (a : α), T.map Tp.dat = U.map Tp.dat → T.foldl f a = U.foldl f a
  | [], [], a, _ => rfl
  | [], _ :: _, a, h => by cases h
  | _ :: _, [], a, h => by cases h
  | t :: T, u :: U, a, h => by
    rw [List.map_cons, List.map_cons] at h
    injection h with h1 h2
    rw [List.foldl_cons, List.foldl_cons, hf a t u h1]
    exact foldl_dat hf T U _ h2
theorem dat_len {T U : List Tp} (h : U.map Tp.dat = T.map Tp.dat) : U.length = T.length := by have := congrArg List.length h; simpa using this
theorem dat_at {T U : List Tp} (h : U.map Tp.dat = T.map Tp.dat) {i : Nat} (hi : i < T.length) : (U[i]'(by rw [dat_len h]; exact hi)).dat = (T[i]).dat := by
  have hu : i < U.length := by rw [dat_len h]; exact hi
  have a1 : (T.map Tp.dat)[i]? = some (T[i]).dat := by rw [List.getElem?_map, List.getElem?_eq_getElem hi]; rfl
  have a2 : (U.map Tp.dat)[i]? = some (U[i]'hu).dat := by rw [List.getElem?_map, List.getElem?_eq_getElem hu]; rfl
  rw [h, a1] at a2
  injection a2 with a2
  exact a2.symm
theorem wRow_dat {b : List Int} {T U : List Tp} (h : U.map Tp.dat = T.map Tp.dat) : wRow b U = wRow b T := foldl_dat (fun E t u he => by rw [wOne_dat he]) U T [] h
theorem wD_dat {T U : List Tp} (h : U.map Tp.dat = T.map Tp.dat) : ∀ d, wD U d = wD T d
  | 0 => by show wRow (zeros U.length) U = wRow (zeros T.length) T; rw [dat_len h, wRow_dat h]
  | d + 1 => by show wRow (wD U d) U = wRow (wD T d) T; rw [wD_dat h d, wRow_dat h]
theorem Fine_dat {T U : List Tp} (h : U.map Tp.dat = T.map Tp.dat) : Fine U ↔ Fine T := by
  have hl := dat_len h
  constructor
  · intro hF i hi
    have h1 := hF i (by rw [hl]; exact hi)
    rw [fineB_dat (dat_at h hi), hl] at h1
    exact h1
  · intro hF i hi
    have hi' : i < T.length := by rw [← hl]; exact hi
    rw [fineB_dat (dat_at h hi'), hl]
    exact hF i hi'
theorem ChkT_dat {T U : List Tp} (h : U.map Tp.dat = T.map Tp.dat) : ChkT U ↔ ChkT T := by unfold ChkT; rw [dat_len h, Fine_dat h, wD_dat h]
theorem TabH.fr {h h' : Hp} {n n' : Nat} {A : Option Addr} {T : List Tp} (hT : TabH h n A T) (hfr : ∀ A' vs', RdH h n A' vs' → RdH h' n A' vs') (hn : n ≤ n') : TabH h' n' A T := ⟨(hfr _ _ hT.rd).more hn, fun t ht => (hfr _ _ (hT.fd t ht)).more hn, hT.nl, hT.bd⟩
end Go.Proofs.Ytgdokjfjmcleeaa.Ce
