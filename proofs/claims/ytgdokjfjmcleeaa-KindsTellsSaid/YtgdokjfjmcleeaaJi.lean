/- Reaching by rounds, in plain Lean. -/
import Derived.Test.YtgdokjfjmcleeaaJb
namespace Go.Proofs.Ytgdokjfjmcleeaa.Ce
open Go.RowKit
set_option linter.unusedVariables false
set_option linter.unusedSimpArgs false
set_option maxHeartbeats 1000000

/-- more marks, or the same -/
structure Sub (F G : List Bool) : Prop where
  len : G.length = F.length
  mono : ∀ x : Nat, F[x]? = some true → G[x]? = some true
  cnt : G = F ∨ F.count true < G.count true
theorem Sub.rfl_ {F : List Bool} : Sub F F := ⟨rfl, fun _ h => h, .inl rfl⟩
theorem Sub.trans {F G H : List Bool} (a : Sub F G) (b : Sub G H) : Sub F H := by
  refine ⟨b.len.trans a.len, fun x h => b.mono x (a.mono x h), ?_⟩
  rcases a.cnt with h1 | h1 <;> rcases b.cnt with h2 | h2
  · exact .inl (h2.trans h1)
  · right; rw [h1] at h2; exact h2
  · right; rw [h2]; exact h1
  · right; omega
theorem set_true_same {F : List Bool} {y : Nat} (h : F[y]? = some true) : F.set y true = F := by
  refine List.ext_getElem? fun x => ?_
  rw [List.getElem?_set]
  by_cases e : y = x
  · subst e
    rw [if_pos rfl, h]
    have : y < F.length := by
      rcases Nat.lt_or_ge y F.length with h1 | h1
      · exact h1
      · rw [List.getElem?_eq_none h1] at h; cases h
    rw [if_pos this]
  · rw [if_neg e]
theorem Sub.set {F : List Bool} {y : Nat} (hy : y < F.length) : Sub F (F.set y true) := by
  refine ⟨List.length_set, fun x h => ?_, ?_⟩
  · rw [List.getElem?_set]
    by_cases e : y = x
    · rw [if_pos e, if_pos hy]
    · rw [if_neg e]; exact h
  · cases hb : F[y]
    · right
      rw [List.count_set hy, hb]
      simp
    · left
      exact set_true_same (by rw [List.getElem?_eq_getElem hy, hb])
theorem set_true_get {F : List Bool} {y : Nat} (hy : y < F.length) : (F.set y true)[y]? = some true := by rw [List.getElem?_set, if_pos rfl, if_pos hy]
def ClosedTo (T : List Tp) (F : List Bool) (k : Nat) : Prop := ∀ x (hx : x < T.length), x < k → F[x]? = some true → ∀ y : Nat, (y : Int) ∈ leadsT true T[x] → F[y]? = some true
def Snd (T : List Tp) (i : Nat) (F : List Bool) : Prop := ∀ x : Nat, F[x]? = some true → Rch T true i x
/-- behind some rounds -/
structure Out (T : List Tp) (i : Nat) (F : List Bool) (r : Nat) : Prop where
  len : F.length = T.length
  snd : Snd T i F
  st : F[i]? = some true
  ok : ClosedTo T F T.length ∨ r + 1 ≤ F.count true
/-- within a round -/
structure Mid (T : List Tp) (i : Nat) (F G : List Bool) (r k : Nat) : Prop where
  out : Out T i F r
  sub : Sub F G
  snd : Snd T i G
  st : G[i]? = some true
  cl : G = F → ClosedTo T F k
  fx : ClosedTo T F T.length → G = F
/-- within a type's turn -/
structure Inn (T : List Tp) (i : Nat) (F G H : List Bool) (r k m : Nat) (ns : List Int) : Prop where
  mid : Mid T i F G r k
  sub : Sub G H
  snd : Snd T i H
  st : H[i]? = some true
  on : G[k]? = some true → ∀ y : Nat, (y : Int) ∈ ns.take m → H[y]? = some true
  off : G[k]? ≠ some true → H = G
  fx : ClosedTo T F T.length → H = F
theorem Out.init {T : List Tp} {i : Nat} (hi : i < T.length) : Out T i ((List.replicate T.length false).set i true) 0 := by
  have hl : i < (List.replicate T.length false).length := by rw [List.length_replicate]; exact hi
  refine ⟨by rw [List.length_set, List.length_replicate], fun x h => ?_, set_true_get hl, .inr ?_⟩
  · rw [List.getElem?_set] at h
    by_cases e : i = x
    · subst e; exact .refl
    · rw [if_neg e, List.getElem?_replicate] at h
      split at h <;> cases h
  · rw [List.count_set hl]
    simp
theorem Out.mid {T : List Tp} {i r : Nat} {F : List Bool} (h : Out T i F r) : Mid T i F F r 0 := ⟨h, Sub.rfl_, h.snd, h.st, fun _ x _ hx => absurd hx (by omega), fun _ => rfl⟩
theorem Mid.inn {T : List Tp} {i r k : Nat} {F G : List Bool} {ns : List Int} (h : Mid T i F G r k) : Inn T i F G G r k 0 ns := ⟨h, Sub.rfl_, h.snd, h.st, fun _ y hy => by simp at hy, fun _ => rfl, h.fx⟩
theorem Inn.len {T : List Tp} {i r k m : Nat} {F G H : List Bool} {ns : List Int} (h : Inn T i F G H r k m ns) : H.length = T.length := by rw [h.sub.len, h.mid.sub.len, h.mid.out.len]
theorem Inn.step {T : List Tp} {i r k m : Nat} {F G H : List Bool} {ns : List Int} (h : Inn T i F G H r k m ns) (hk : k < T.length) (hns : leadsT true T[k] = ns) (hm : m < ns.length) {y : Nat} (hy : ns[m] = (y : Int)) (hyl : y < T.length) (hHk : H[k]? = some true) : Inn T i F G (H.set y true) r k (m + 1) ns := by
  have hl := h.len
  have hyH : y < H.length := by omega
  have hs := Sub.set hyH
  have hG : G[k]? = some true := by
    rcases Classical.em (G[k]? = some true) with h1 | h1
    · exact h1
    · rw [h.off h1] at hHk; exact absurd hHk h1
  have hym : (y : Int) ∈ leadsT true T[k] := by rw [hns, ← hy]; exact List.getElem_mem _
  refine ⟨h.mid, h.sub.trans hs, fun x hx => ?_, hs.mono _ h.st, fun _ z hz => ?_, fun h1 => absurd hG h1, fun hc => ?_⟩
  · rw [List.getElem?_set] at hx
    by_cases e : y = x
    · subst e
      exact .step (h.snd k hHk) hk hym
    · rw [if_neg e] at hx; exact h.snd x hx
  · rw [List.take_succ_eq_append_getElem hm] at hz
    rcases List.mem_append.1 hz with hz | hz
    · exact hs.mono _ (h.on hG z hz)
    · have hz := List.mem_singleton.1 hz
      rw [hy] at hz
      obtain rfl : z = y := by omega
      exact set_true_get hyH
  · have he := h.fx hc
    subst he
    exact set_true_same (hc k hk hk hHk y hym)
theorem Inn.next {T : List Tp} {i r k m : Nat} {F G H : List Bool} {ns : List Int} (h : Inn T i F G H r k m ns) (hk : k < T.length) (hns : leadsT true T[k] = ns) (hm : m = ns.length ∨ H[k]? ≠ some true) : Mid T i F H r (k + 1) := by
  refine ⟨h.mid.out, h.mid.sub.trans h.sub, h.snd, h.st, fun e => ?_, h.fx⟩
  have hGF : G = F := by
    rcases h.mid.sub.cnt with h1 | h1
    · exact h1
    · rcases h.sub.cnt with h2 | h2
      · rw [← h2]; exact e
      · rw [e] at h2; omega
  have hHG : H = G := by rw [e, hGF]
  intro x hx hxk hF y hy
  by_cases hxe : x = k
  · subst hxe
    rcases hm with hm | hm
    · rw [← e]
      refine h.on (by rw [hGF]; exact hF) y ?_
      rw [hm, List.take_length, ← hns]
      exact hy
    · rw [e] at hm
      exact absurd hF hm
  · exact h.mid.cl hGF x hx (by omega) hF y hy
theorem Mid.next {T : List Tp} {i r : Nat} {F G : List Bool} (h : Mid T i F G r T.length) : Out T i G (r + 1) := by
  refine ⟨by rw [h.sub.len, h.out.len], h.snd, h.st, ?_⟩
  rcases h.sub.cnt with h1 | h1
  · left
    have := h.cl h1
    rw [h1]
    exact this
  · rcases h.out.ok with h2 | h2
    · rw [h.fx h2] at h1; exact absurd h1 (Nat.lt_irrefl _)
    · right; omega
theorem Out.done {T : List Tp} {i : Nat} {F : List Bool} (hF : Fine T) (hi : i < T.length) (h : Out T i F T.length) : F = rchF T true i := by
  have hc : ClosedTo T F T.length := by
    rcases h.ok with h1 | h1
    · exact h1
    · have := List.count_le_length (a := true) (l := F)
      rw [h.len] at this
      omega
  exact rchF_eq hF hi h.len h.st (fun x _ hx => h.snd x hx) fun x hx h1 y hy => hc x hx hx h1 y hy
end Go.Proofs.Ytgdokjfjmcleeaa.Ce
