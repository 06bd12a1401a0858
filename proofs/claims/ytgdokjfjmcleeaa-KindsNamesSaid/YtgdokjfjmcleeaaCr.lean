/- The evaluator of closed calls: what its values and blocks say of the machine's. No program in sight. -/
import Derived.Test.YtgdokjfjmcleeaaCe
import Derived.Orders
namespace Go.Proofs.Ytgdokjfjmcleeaa.Ce
open Go.RowKit
set_option linter.unusedVariables false
set_option linter.unusedSimpArgs false

section lists
variable {α : Type}
theorem lget_eq (l : List α) : ∀ n, lget l n = l[n]? := by
  induction l with
  | nil => intro n; rfl
  | cons a l ih => intro n; cases n with
    | zero => rfl
    | succ n => exact ih n
theorem lset_eq (v : α) (l : List α) : ∀ n, lset v n l = l.set n v := by
  induction l with
  | nil => intro n; rfl
  | cons a l ih => intro n; cases n with
    | zero => rfl
    | succ n => show a :: lset v n l = _; rw [ih n]; rfl
theorem ldrop_eq (l : List α) : ∀ n, ldrop n l = l.drop n := by
  induction l with
  | nil => intro n; simp [ldrop]
  | cons a l ih => intro n; cases n with
    | zero => rfl
    | succ n => exact ih n
theorem ltake_some (l : List α) : ∀ {n : Nat} {r : List α}, ltake n l = some r → n ≤ l.length ∧ r = l.take n := by
  induction l with
  | nil => intro n r h; cases n with
    | zero => injection h with h; subst h; exact ⟨Nat.le_refl _, rfl⟩
    | succ n => cases h
  | cons a l ih => intro n r h; cases n with
    | zero => injection h with h; subst h; exact ⟨by simp, rfl⟩
    | succ n =>
      change Option.rec none (fun r => some (a :: r)) (ltake n l) = some r at h
      cases hr : ltake n l with
      | none => rw [hr] at h; cases h
      | some r' =>
        rw [hr] at h
        injection h with h
        obtain ⟨h1, h2⟩ := ih hr
        exact ⟨by simp; omega, by rw [← h, h2]; rfl⟩
theorem over_some (vs : List α) : ∀ {l r : List α}, over vs l = some r → vs.length ≤ l.length ∧ r = vs ++ l.drop vs.length := by
  induction vs with
  | nil => intro l r h; injection h with h; subst h; exact ⟨by simp, by simp⟩
  | cons v vs ih => intro l r h; cases l with
    | nil => cases h
    | cons a l =>
      change Option.rec none (fun r => some (v :: r)) (over vs l) = some r at h
      cases hr : over vs l with
      | none => rw [hr] at h; cases h
      | some r' =>
        rw [hr] at h
        injection h with h
        obtain ⟨h1, h2⟩ := ih hr
        exact ⟨by simp; omega, by rw [← h, h2]; rfl⟩
theorem overAt_some (vs : List α) (l : List α) : ∀ {n : Nat} {r : List α}, overAt n vs l = some r → n + vs.length ≤ l.length ∧ r = l.take n ++ (vs ++ l.drop (n + vs.length)) := by
  induction l with
  | nil => intro n r h; cases n with
    | zero =>
      obtain ⟨h1, h2⟩ := over_some vs (l := []) h
      exact ⟨by omega, by rw [h2]; simp⟩
    | succ n => cases h
  | cons a l ih => intro n r h; cases n with
    | zero =>
      obtain ⟨h1, h2⟩ := over_some vs (l := a :: l) h
      exact ⟨by omega, by rw [h2]; simp⟩
    | succ n =>
      change Option.rec none (fun r => some (a :: r)) (overAt n vs l) = some r at h
      cases hr : overAt n vs l with
      | none => rw [hr] at h; cases h
      | some r' =>
        rw [hr] at h
        injection h with h
        obtain ⟨h1, h2⟩ := ih hr
        refine ⟨by simp; omega, ?_⟩
        rw [← h, h2]
        simp [Nat.add_right_comm n 1 vs.length]
theorem pset_get (d v : α) (l : List α) : ∀ n m, ((pset d v n l)[m]?).getD d = if m = n then v else (l[m]?).getD d := by
  have nil : ∀ n m, ((pset d v n ([] : List α))[m]?).getD d = if m = n then v else d := by
    intro n
    induction n with
    | zero => intro m; cases m <;> rfl
    | succ n ih =>
      intro m
      cases m with
      | zero => rfl
      | succ m =>
        have h := ih m
        simp only [Nat.add_right_cancel_iff]
        rw [← h]
        rfl
  induction l with
  | nil => intro n m; simpa using nil n m
  | cons a l ih => intro n m; cases n with
    | zero => cases m <;> rfl
    | succ n => cases m with
      | zero => rfl
      | succ m =>
        have h := ih n m
        simp only [Nat.add_right_cancel_iff, List.getElem?_cons_succ]
        rw [← h]
        rfl
end lists

theorem Hp.get_set (h : Hp) (n m : Nat) (v : AObj) : (h.set n v).get m = if m = n then v else h.get m := by
  unfold Hp.get Hp.set
  rw [lget_eq, lget_eq]
  exact pset_get none v h n m
theorem Hp.get_same (h : Hp) (n : Nat) (v : AObj) : (h.set n v).get n = v := by rw [Hp.get_set, if_pos rfl]
theorem Hp.get_ne (h : Hp) {n m : Nat} (v : AObj) (e : m ≠ n) : (h.set n v).get m = h.get m := by rw [Hp.get_set, if_neg e]

theorem fN_eq {β : Type} (n : Nat) (K : Nat → β) : fN n K = K n := by cases n <;> rfl
theorem fI_eq {β : Type} (i : Int) (K : Int → β) : fI i K = K i := by
  cases i with
  | ofNat m => exact fN_eq m fun m => K (.ofNat m)
  | negSucc m => exact fN_eq m fun m => K (.negSucc m)
theorem fB_eq {β : Type} (b : Bool) (K : Bool → β) : fB b K = K b := by cases b <;> rfl
theorem fA_eq {β : Type} (v : Value) (K : Value → β) : fA v K = K v := by
  unfold fA
  split
  · exact fB_eq _ _
  · exact fI_eq _ _
  · rw [fN_eq, fN_eq]
  · rw [fN_eq, fN_eq, fN_eq, fN_eq]
  · rfl
theorem fAs_eq {β : Type} (l : List Value) : ∀ K : List Value → β, fAs l K = K l := by
  induction l with
  | nil => intro K; rfl
  | cons a l ih => intro K; exact (fA_eq a fun a => fAs l fun t => K (a :: t)).trans (ih _)
theorem fV1_eq {β : Type} (v : Value) (K : Value → β) : fV1 v K = K v := by
  unfold fV1
  split
  · rw [fAs_eq]
  · exact fA_eq _ _
theorem fV1s_eq {β : Type} (l : List Value) : ∀ K : List Value → β, fV1s l K = K l := by
  induction l with
  | nil => intro K; rfl
  | cons a l ih => intro K; exact (fV1_eq a fun a => fV1s l fun t => K (a :: t)).trans (ih _)
theorem fV_eq {β : Type} (v : Value) (K : Value → β) : fV v K = K v := by
  unfold fV
  split
  · rw [fV1s_eq]
  · exact fV1_eq _ _

theorem prun_run {P : Program} {α : Type} : ∀ {s : Sem α} {r : α}, prun P s = some r → ∀ w, s.run P w = .ok r w := by
  intro s
  induction s with
  | pure a => intro r h w; injection h with h; rw [← h]; rfl
  | program k ih => intro r h w; exact ih P h w
  | mark m k ih => intro r h w; exact ih h w
  | _ => intro r h; cases h

/-- pointwise -/
def VL (R : Value → Value → Prop) : List Value → List Value → Prop
  | [], [] => True
  | a :: l, b :: m => R a b ∧ VL R l m
  | _, _ => False
section
variable {R R' : Value → Value → Prop}
theorem VL.len : ∀ {l m : List Value}, VL R l m → l.length = m.length
  | [], [], _ => rfl
  | _ :: l, _ :: m, h => by simp [VL.len h.2]
  | [], _ :: _, h => h.elim
  | _ :: _, [], h => h.elim
theorem VL.imp_ (hr : ∀ a b, R a b → R' a b) : ∀ {l m : List Value}, VL R l m → VL R' l m
  | [], [], _ => trivial
  | _ :: l, _ :: m, h => ⟨hr _ _ h.1, VL.imp_ hr h.2⟩
  | [], _ :: _, h => h.elim
  | _ :: _, [], h => h.elim
theorem VL.at_ : ∀ {l m : List Value}, VL R l m → ∀ {k : Nat} {a : Value}, l[k]? = some a → ∃ b, m[k]? = some b ∧ R a b
  | [], [], _, _, _, h => by simp at h
  | a :: l, b :: m, hv, 0, _, h => by simp at h; subst h; exact ⟨b, by simp, hv.1⟩
  | a :: l, b :: m, hv, k + 1, _, h => by simpa using VL.at_ hv.2 (by simpa using h)
  | [], _ :: _, h, _, _, _ => h.elim
  | _ :: _, [], h, _, _, _ => h.elim
theorem VL.mk : ∀ {l m : List Value}, l.length = m.length → (∀ (k : Nat) (a b : Value), l[k]? = some a → m[k]? = some b → R a b) → VL R l m
  | [], [], _, _ => trivial
  | a :: l, b :: m, hl, h => ⟨h 0 a b (by simp) (by simp), VL.mk (by simpa using hl) fun k x y h1 h2 => h (k + 1) x y (by simpa using h1) (by simpa using h2)⟩
  | [], _ :: _, h, _ => by simp at h
  | _ :: _, [], h, _ => by simp at h
theorem VL.app : ∀ {l m l' m' : List Value}, VL R l m → VL R l' m' → VL R (l ++ l') (m ++ m')
  | [], [], _, _, _, h => h
  | a :: l, b :: m, _, _, h, h' => ⟨h.1, VL.app h.2 h'⟩
  | [], _ :: _, _, _, h, _ => h.elim
  | _ :: _, [], _, _, h, _ => h.elim
theorem VL.take_ : ∀ {l m : List Value}, VL R l m → ∀ k, VL R (l.take k) (m.take k)
  | [], [], _, _ => by simp [VL]
  | a :: l, b :: m, h, 0 => by simp [VL]
  | a :: l, b :: m, h, k + 1 => ⟨h.1, VL.take_ h.2 k⟩
  | [], _ :: _, h, _ => h.elim
  | _ :: _, [], h, _ => h.elim
theorem VL.drop_ : ∀ {l m : List Value}, VL R l m → ∀ k, VL R (l.drop k) (m.drop k)
  | [], [], _, _ => by simp [VL]
  | a :: l, b :: m, h, 0 => h
  | a :: l, b :: m, h, k + 1 => VL.drop_ h.2 k
  | [], _ :: _, h, _ => h.elim
  | _ :: _, [], h, _ => h.elim
theorem VL.set_ : ∀ {l m : List Value}, VL R l m → ∀ k {a b : Value}, R a b → VL R (l.set k a) (m.set k b)
  | [], [], _, _, _, _, _ => by simp [VL]
  | _ :: l, _ :: m, h, 0, _, _, hr => ⟨hr, h.2⟩
  | _ :: l, _ :: m, h, k + 1, _, _, hr => ⟨h.1, VL.set_ h.2 k hr⟩
  | [], _ :: _, h, _, _, _, _ => h.elim
  | _ :: _, [], h, _, _, _, _ => h.elim
theorem VL.map_ {β : Type} {f g : β → Value} : ∀ {l : List β}, (∀ x ∈ l, R (f x) (g x)) → VL R (l.map f) (l.map g)
  | [], _ => trivial
  | x :: l, h => ⟨h x (by simp), VL.map_ fun y hy => h y (by simp [hy])⟩
theorem VL.rep {a b : Value} (h : R a b) : ∀ n, VL R (List.replicate n a) (List.replicate n b)
  | 0 => trivial
  | n + 1 => ⟨h, VL.rep h n⟩
end

/-- where the evaluator's blocks lie, and how many elements they have room for -/
abbrev Mp := Nat → Option (Nat × Nat)
/-- one cell's value -/
def VA (φ : Mp) (u v : Value) : Prop := match u with
  | .pointer (some ⟨id, j, none⟩) => ∃ g c, φ id = some (g, c) ∧ v = .pointer (some ⟨g, j, none⟩)
  | .slice (some ⟨id, j, none⟩) n _ => ∃ g c j' c', φ id = some (g, c) ∧ v = .slice (some ⟨g, j', none⟩) n c' ∧ n ≤ c' ∧ c' ≤ maxLen ∧ (j' = j ∨ n = 0 ∧ c' = 0) ∧ (j = 0 → c ≤ maxLen → j' = 0 ∧ c' = c)
  | .slice (some ⟨_, _, some _⟩) n _ => n = 0 ∧ ∃ a' c', v = .slice (some a') 0 c'
  | .chan _ => True
  | .map (some id) => ∃ g c, φ id = some (g, c) ∧ v = .map (some g)
  | u => flat1 u = true ∧ v = u
def VB (φ : Mp) (u v : Value) : Prop := match u with
  | .agg cs => ∃ ds : Array Value, v = .agg ds ∧ VL (VA φ) cs.toList ds.toList
  | u => VA φ u v
/-- a temporary's value; a channel stands for all -/
def VC (φ : Mp) (u v : Value) : Prop := match u with
  | .chan _ => True
  | .tuple cs => ∃ ds : Array Value, v = .tuple ds ∧ VL (VB φ) cs.toList ds.toList
  | .func fn a b => ∃ a' b' : Array Value, v = .func fn a' b' ∧ VL (VB φ) a.toList a'.toList ∧ VL (VB φ) b.toList b'.toList
  | u => VB φ u v

def le_ (φ φ' : Mp) : Prop := ∀ id p, φ id = some p → φ' id = some p
theorem le_.refl (φ : Mp) : le_ φ φ := fun _ _ h => h
theorem le_.trans {a b c : Mp} (h : le_ a b) (h' : le_ b c) : le_ a c := fun _ _ hh => h' _ _ (h _ _ hh)
section
variable {φ φ' : Mp} {u v : Value}
theorem VA.mono (hle : le_ φ φ') (h : VA φ u v) : VA φ' u v := by
  unfold VA at *
  split at h
  · obtain ⟨g, c, h1, h2⟩ := h; exact ⟨g, c, hle _ _ h1, h2⟩
  · obtain ⟨g, c, j', c', h1, h2⟩ := h; exact ⟨g, c, j', c', hle _ _ h1, h2⟩
  · exact h
  · trivial
  · obtain ⟨g, c, h1, h2⟩ := h; exact ⟨g, c, hle _ _ h1, h2⟩
  · exact h
theorem VB.mono (hle : le_ φ φ') (h : VB φ u v) : VB φ' u v := by
  unfold VB at *
  split at h
  · obtain ⟨ds, h1, h2⟩ := h; exact ⟨ds, h1, h2.imp_ fun _ _ => VA.mono hle⟩
  · exact h.mono hle
theorem VC.mono (hle : le_ φ φ') (h : VC φ u v) : VC φ' u v := by
  unfold VC at *
  split at h
  · trivial
  · obtain ⟨ds, h1, h2⟩ := h; exact ⟨ds, h1, h2.imp_ fun _ _ => VB.mono hle⟩
  · obtain ⟨a', b', h1, h2, h3⟩ := h; exact ⟨a', b', h1, h2.imp_ fun _ _ => VB.mono hle, h3.imp_ fun _ _ => VB.mono hle⟩
  · exact h.mono hle
theorem VA.vb (h : VA φ u v) : VB φ u v := by
  unfold VB
  split
  · unfold VA at h; simp [flat1] at h
  · exact h
theorem VB.vc (h : VB φ u v) : VC φ u v := by
  unfold VC
  split
  · trivial
  · unfold VB VA at h; simp [flat1] at h
  · unfold VB VA at h; simp [flat1] at h
  · exact h
theorem VC.wild (v : Value) : VC φ Ce.wild v := trivial
theorem VC.undef_ : VC φ undef undef := ⟨_, rfl, trivial⟩
/-- a truth value is known, or nothing is -/
theorem VC.of_bool {b : Bool} (h : VC φ u (.bool b)) : u = .bool b ∨ ∃ c, u = .chan c := by
  cases u with
  | chan c => exact .inr ⟨c, rfl⟩
  | bool c => injection h.2 with h; subst h; exact .inl rfl
  | tuple cs => obtain ⟨ds, h, -⟩ := h; cases h
  | func fn a c => obtain ⟨a', b', h, -⟩ := h; cases h
  | agg cs => obtain ⟨ds, h, -⟩ := h; cases h
  | pointer a =>
    rcases a with _ | ⟨id, j, s⟩
    · cases h.2
    · rcases s with _ | s
      · obtain ⟨g, c, _, h⟩ := h; cases h
      · cases h.2
  | slice a m c =>
    rcases a with _ | ⟨id, j, s⟩
    · cases h.2
    · rcases s with _ | s
      · obtain ⟨g, c, j', c', _, h, _⟩ := h; cases h
      · obtain ⟨_, a', c', h⟩ := h; cases h
  | map a =>
    rcases a with _ | id
    · cases h.2
    · obtain ⟨g, c, _, h⟩ := h; cases h
  | _ => cases h.2
theorem VA.flat (h : flat1 u = true) : VA φ u u := by
  unfold VA
  split <;> first | (simp [flat1] at h; done) | exact ⟨h, rfl⟩
theorem VC.empty {a : Addr} {c : Nat} {v : Value} (h : VC φ (.slice (some a) 0 c) v) : ∃ a' c', v = .slice (some a') 0 c' := by
  obtain ⟨id, j, s⟩ := a
  cases s with
  | none => obtain ⟨g, c1, j', c', _, rfl, _⟩ := h; exact ⟨_, _, rfl⟩
  | some s => obtain ⟨_, a', c', rfl⟩ := h; exact ⟨_, _, rfl⟩
theorem VC.int {k : IntKind} {i : Int} (h : VC φ (.int k i) v) : v = .int k i := h.2
theorem VC.bool {b : Bool} (h : VC φ (.bool b) v) : v = .bool b := h.2
theorem VC.str {s : ByteArray} (h : VC φ (.string s) v) : v = .string s := h.2
theorem VC.flat_eq (hf : flat1 u = true) (h : VC φ u v) : v = u := by
  unfold VC at h
  split at h
  · simp [flat1] at hf
  · simp [flat1] at hf
  · simp [flat1] at hf
  · unfold VB at h
    split at h
    · simp [flat1] at hf
    · unfold VA at h
      split at h <;> first | (simp [flat1] at hf; done) | exact h.2
theorem VL.flat_eq : ∀ {l m : List Value}, l.all flat1 = true → VL (VA φ) l m → m = l
  | [], [], _, _ => rfl
  | a :: l, b :: m, hf, h => by
    simp only [List.all_cons, Bool.and_eq_true] at hf
    rw [VL.flat_eq hf.2 h.2, VC.flat_eq hf.1 h.1.vb.vc]
  | [], _ :: _, _, h => h.elim
  | _ :: _, [], _, h => h.elim
theorem VL.flat_refl : ∀ {l : List Value}, l.all flat1 = true → VL (VA φ) l l
  | [], _ => trivial
  | a :: l, hf => by
    simp only [List.all_cons, Bool.and_eq_true] at hf
    exact ⟨VA.flat hf.1, VL.flat_refl hf.2⟩
/-- the cells of a value that is stored -/
theorem VC.cells (h : VC φ u v) (hc : u.cells.toList.all cok = true) : VL (VA φ) u.cells.toList v.cells.toList := by
  cases u with
  | agg cs =>
    obtain ⟨ds, rfl, h2⟩ := h
    exact h2
  | tuple cs => simp [Value.cells, cok] at hc
  | func fn a b => simp [Value.cells, cok] at hc
  | int k i => obtain rfl := h.int; exact ⟨VA.flat rfl, trivial⟩
  | bool b => obtain rfl := h.bool; exact ⟨VA.flat rfl, trivial⟩
  | string s => obtain rfl := h.str; exact ⟨VA.flat rfl, trivial⟩
  | pointer a =>
    have h' : VA φ (.pointer a) v := h
    have hv : v.cells.toList = [v] := by
      rcases a with _ | ⟨id, j, s⟩
      · rw [h'.2]; rfl
      · rcases s with _ | s
        · obtain ⟨g, c, _, rfl⟩ := h'; rfl
        · rw [h'.2]; rfl
    rw [hv]; exact ⟨h', trivial⟩
  | slice a n c =>
    have h' : VA φ (.slice a n c) v := h
    have hv : v.cells.toList = [v] := by
      rcases a with _ | ⟨id, j, s⟩
      · rw [h'.2]; rfl
      · rcases s with _ | s
        · obtain ⟨g, c, j', c', _, rfl, _⟩ := h'; rfl
        · obtain ⟨_, a', c', rfl⟩ := h'; rfl
    rw [hv]; exact ⟨h', trivial⟩
  | map a =>
    have h' : VA φ (.map a) v := h
    have hv : v.cells.toList = [v] := by
      rcases a with _ | id
      · rw [h'.2]; rfl
      · obtain ⟨g, c, _, rfl⟩ := h'; rfl
    rw [hv]; exact ⟨h', trivial⟩
  | _ => simp [Value.cells, cok] at hc
theorem VA.one_cell (h : VA φ u v) (hc : cok u = true) : v.oneCell' = true := by
  cases u with
  | int k i => rw [h.2]; rfl
  | bool b => rw [h.2]; rfl
  | string s => rw [h.2]; rfl
  | pointer a =>
    rcases a with _ | ⟨id, j, s⟩
    · rw [h.2]; rfl
    · rcases s with _ | s
      · obtain ⟨g, c, _, rfl⟩ := h; rfl
      · rw [h.2]; rfl
  | slice a n c =>
    rcases a with _ | ⟨id, j, s⟩
    · rw [h.2]; rfl
    · rcases s with _ | s
      · obtain ⟨g, c, j', c', _, rfl, _⟩ := h; rfl
      · obtain ⟨_, a', c', rfl⟩ := h; rfl
  | map a =>
    rcases a with _ | id
    · rw [h.2]; rfl
    · obtain ⟨g, c, _, rfl⟩ := h; rfl
  | _ => simp [cok] at hc
theorem VL.one_cells : ∀ {l m : List Value}, VL (VA φ) l m → l.all cok = true → ∀ x ∈ m, x.oneCell' = true
  | [], [], _, _ => by simp
  | a :: l, b :: m, h, hc => by
    simp only [List.all_cons, Bool.and_eq_true] at hc
    intro x hx
    rcases List.mem_cons.1 hx with rfl | hx
    · exact h.1.one_cell hc.1
    · exact VL.one_cells h.2 hc.2 x hx
  | [], _ :: _, h, _ => h.elim
  | _ :: _, [], h, _ => h.elim
end

/-- what a block of the evaluator's says of a block of the machine's -/
def ObjR (P : Program) (φ : Mp) (o : AObj) (w : World) (g c : Nat) : Prop := match o with
  | none => True
  | some (.inl (e, ro, cs)) => ∃ (ds : Array Value) (fz : Nat × Nat), w.heap[g]? = some (.cells ds e fz) ∧ VL (VA φ) cs (ds.toList.take cs.length) ∧ (ro = false → c ≤ maxLen ∧ fz = (0, 0) ∧ ∃ sz, tySize P e = some sz ∧ ds.size = c * sz)
  | some (.inr m) => w.heap[g]? = some (.map m.1 m.2)
theorem ObjR.mono {P : Program} {φ φ' : Mp} {o : AObj} {w w' : World} {g c : Nat} (hle : le_ φ φ') (hw : w'.heap[g]? = w.heap[g]?) (h : ObjR P φ o w g c) : ObjR P φ' o w' g c := by
  unfold ObjR at *
  split at h
  · trivial
  · obtain ⟨ds, fz, h1, h2, h3⟩ := h; exact ⟨ds, fz, hw.trans h1, h2.imp_ fun _ _ => VA.mono hle, h3⟩
  · exact hw.trans h

def upd (φ : Mp) (n : Nat) (p : Nat × Nat) : Mp := fun id => if id = n then some p else φ id
theorem upd_le {φ : Mp} {n : Nat} (p : Nat × Nat) (h : φ n = none) : le_ φ (upd φ n p) := fun id q hq => by
  unfold upd
  split
  · subst id; rw [h] at hq; cases hq
  · exact hq
theorem upd_same (φ : Mp) (n : Nat) (p : Nat × Nat) : upd φ n p n = some p := by simp [upd]
theorem upd_ne (φ : Mp) {n id : Nat} (p : Nat × Nat) (h : id ≠ n) : upd φ n p id = φ id := by simp [upd, h]
end Go.Proofs.Ytgdokjfjmcleeaa.Ce
