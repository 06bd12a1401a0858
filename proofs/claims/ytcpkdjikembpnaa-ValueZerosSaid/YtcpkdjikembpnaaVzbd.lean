/- Parts of the proof of ValueZeros: Cut, Tk, Ec, Im. No condition of its own. -/
import Derived.Test.YtcpkdjikembpnaaVzag
import Derived.Test.YtcpkdjikembpnaaVzah
import Derived.Test.YtcpkdjikembpnaaVzaj
import Derived.Test.YtcpkdjikembpnaaVzal
import Derived.Test.YtcpkdjikembpnaaVzar
import Derived.Test.YtcpkdjikembpnaaVzbc
set_option linter.unusedVariables false
set_option linter.unusedSimpArgs false
set_option maxRecDepth 100000
set_option maxHeartbeats 4000000
namespace Go.Proofs.Ytcpkdjikembpnaa.Ce
open Go.RowKit
def tk : Nat → Code → Code
 | n + 1, .seq x y => .seq x (tk n y)
 | _, _ => .skip
def dr : Nat → Code → Code
 | n + 1, .seq x y => dr n y
 | _, c => c
def app : Code → Code → Code
 | .seq x y, c => app x (app y c)
 | x, c => .seq x c
def hd : Code → Option Code
 | .seq x _ => some x
 | _ => none
def flatT : Value → Bool
 | .tuple cs => cs.toList.all flat1
 | v => flat1 v
def bz (l : List Nat) : List Value := l.map fun n => .int .u8 (Int.ofNat n)
def bodyOf (P : Program) (f : FuncId) : Code := match P.funcs[f]? with
 | some fn => fn.body.getD .skip
 | none => .skip
def ntOf (P : Program) (f : FuncId) : Nat := match P.funcs[f]? with
 | some fn => fn.ntmps
 | none => 0
section
variable {P : Program} {F : CallE} {k lim S : Nat} {φ : Mp}
theorem cut_at (n : Nat) : ∀ {c : Code} {st st1 : St} {r : Option (Ex × St)}, acode P F k lim (tk n c) st = some (0, st1) → acode P F k lim (dr n c) st1 = r → acode P F k lim c st = r := by
 induction n with
 | zero =>
  intro c st st1 r h1 h2
  have e : st = st1 := by
   have h1' : (some (0, st) : Option (Ex × St)) = some (0, st1) := h1
   injection h1' with h1'
   injection h1'
  subst e
  exact h2
 | succ n ih =>
  intro c st st1 r h1 h2
  cases c with
  | seq x y =>
   change (acode P F k lim x st).bind (fun r => bif Nat.beq r.1 0 then acode P F k lim (tk n y) r.2 else some r) = some (0, st1) at h1
   show (acode P F k lim x st).bind (fun r => bif Nat.beq r.1 0 then acode P F k lim y r.2 else some r) = r
   obtain ⟨r1, h3, h4⟩ := bind_some h1
   rw [h3]
   dsimp only [Option.bind_some]
   cases hb : Nat.beq r1.1 0 with
   | true =>
    rw [hb] at h4
    exact ih h4 h2
   | false =>
    rw [hb] at h4
    injection h4 with h4
    rw [h4] at hb
    cases hb
  | _ =>
   have e : st = st1 := by
    have h1' : (some (0, st) : Option (Ex × St)) = some (0, st1) := h1
    injection h1' with h1'
    injection h1'
   subst e
   exact h2
theorem seq_assoc (x y z : Code) : acode P F k lim (.seq x (.seq y z)) = acode P F k lim (.seq (.seq x y) z) := by
 funext st
 show (acode P F k lim x st).bind (fun r => bif Nat.beq r.1 0 then (acode P F k lim y r.2).bind (fun r => bif Nat.beq r.1 0 then acode P F k lim z r.2 else some r) else some r) =
  ((acode P F k lim x st).bind (fun r => bif Nat.beq r.1 0 then acode P F k lim y r.2 else some r)).bind (fun r => bif Nat.beq r.1 0 then acode P F k lim z r.2 else some r)
 cases acode P F k lim x st with
 | none => rfl
 | some r =>
  dsimp only [Option.bind_some]
  cases hb : Nat.beq r.1 0 with
  | true => rfl
  | false => simp [hb]
theorem app_eq : ∀ (x y : Code), acode P F k lim (app x y) = acode P F k lim (.seq x y) := by
 intro x
 induction x with
 | seq a b iha ihb =>
  intro y
  show acode P F k lim (app a (app b y)) = _
  rw [iha, ← seq_assoc]
  have := ihb y
  funext st
  show (acode P F k lim a st).bind (fun r => bif Nat.beq r.1 0 then acode P F k lim (app b y) r.2 else some r) = _
  rw [this]
  rfl
 | _ => intro y; rfl
theorem flat_law {c : Code} {st : St} {r : Option (Ex × St)} (h : acode P F k lim (app c .skip) st = r) : acode P F k lim c st = r := by
 rw [app_eq] at h
 rw [← h]
 show _ = (acode P F k lim c st).bind (fun r => bif Nat.beq r.1 0 then some (0, r.2) else some r)
 cases acode P F k lim c st with
 | none => rfl
 | some r =>
  obtain ⟨ex, s⟩ := r
  dsimp only [Option.bind_some]
  cases ex <;> rfl
theorem VLB.flat_eq : ∀ {l m : List Value}, l.all flat1 = true → VL (VB φ) l m → m = l
 | [], [], _, _ => rfl
 | a :: l, b :: m, h, hv => by
  simp only [List.all_cons, Bool.and_eq_true] at h
  rw [(hv.1.vc).flat_eq h.1, VLB.flat_eq h.2 hv.2]
 | [], _ :: _, _, h => h.elim
 | _ :: _, [], _, h => h.elim
theorem VLB.flat_refl : ∀ {l : List Value}, l.all flat1 = true → VL (VB φ) l l
 | [], _ => trivial
 | a :: l, h => by
  simp only [List.all_cons, Bool.and_eq_true] at h
  exact ⟨VA.vb (VA.flat h.1), VLB.flat_refl h.2⟩
theorem flatT_eq {u v : Value} (hf : flatT u = true) (h : VC φ u v) : v = u := by
 cases u with
 | tuple cs =>
  obtain ⟨ds, rfl, h2⟩ := h
  have := VLB.flat_eq (show cs.toList.all flat1 = true from hf) h2
  congr 1
  exact Array.toList_inj.1 this
 | _ => exact VC.flat_eq (show flat1 _ = true from hf) h
theorem flatT_refl {u : Value} (hf : flatT u = true) : VC φ u u := by
 cases u with
 | tuple cs => exact ⟨cs, rfl, VLB.flat_refl (show cs.toList.all flat1 = true from hf)⟩
 | _ => exact VB.vc (VA.vb (VA.flat (show flat1 _ = true from hf)))
noncomputable def tabGet (l : List (FuncId × Value)) (g : FuncId) : Option Value := List.rec none (fun x _ ih => bif Nat.beq x.1 g then some x.2 else ih) l
theorem tabGet_some : ∀ {l : List (FuncId × Value)} {g : FuncId} {v : Value}, tabGet l g = some v → (g, v) ∈ l
 | [], g, v, h => by cases h
 | x :: l, g, v, h => by
  change (bif Nat.beq x.1 g then some x.2 else tabGet l g) = some v at h
  cases hb : Nat.beq x.1 g with
  | true =>
   rw [hb] at h
   injection h with h
   have := Nat.eq_of_beq_eq_true hb
   subst h; subst this
   exact List.mem_cons_self
  | false =>
   rw [hb] at h
   exact List.mem_cons_of_mem _ (tabGet_some h)
noncomputable def tab (F : CallE) (l : List (FuncId × Value)) : CallE := fun cl g as' h n => match as' with
 | [] => Option.rec (F cl g [] h n) (fun v => some (v, h, n)) (tabGet l g)
 | a :: as' => F cl g (a :: as') h n
theorem tab_nil (F : CallE) : tab F [] = F := by funext cl g as' h n; cases as' <;> rfl
theorem cut_law {W : FuncId → Bool} {F : CallE} {f : FuncId} {c : Code} {nt : Nat} {rs : List ResultVar} {ex : Nat} {st0 st : St} {v : Value} (hg : goodF P f = some (c, nt, rs)) (hW : W f = false) (hd : dform c = none)
  (h0 : (⟨List.replicate nt undef, [], 0⟩ : St) = st0) (he : acode P F k 0 c st0 = some (ex, st)) (hx : Nat.ble ex 1 = true) (hr : aresults P st.h rs st.a = some v) (ht : (sweep [] 0 (v, st.h, st.n)).1 = v) :
  ∃ h n, afunc P F W k 0 f [] [] 0 = some (v, h, n) := by
 subst h0
 have h1 : arun P F k 0 f [] [] 0 = some (v, st.h, st.n) := by
  unfold arun
  rw [hg]
  dsimp only [Option.bind_some]
  rw [hd]
  show arun1 P F k 0 (c, nt, rs) [] [] 0 = _
  unfold arun1
  dsimp only
  rw [show ([] ++ List.replicate (nt - List.length ([] : List Value)) undef : List Value) = List.replicate nt undef from by simp, he]
  dsimp only [Option.bind_some]
  rw [hx, hr]
  rfl
 have h2 : afunc P F W k 0 f [] [] 0 = some (sweep [] 0 (v, st.h, st.n)) := by
  unfold afunc
  rw [hW, h1]
  rfl
 rw [h2]
 generalize sweep [] 0 (v, st.h, st.n) = r at ht
 obtain ⟨x, y, z⟩ := r
 have ht' : x = v := ht
 exact ⟨y, z, by rw [ht']⟩
end
end Go.Proofs.Ytcpkdjikembpnaa.Ce
namespace Go.Proofs.Ytcpkdjikembpnaa.Ce
open Go.RowKit
section
variable {P : Program} {F : CallE}
theorem tab_both2 {l : List (FuncId × Value)} (hl : ∀ x ∈ l, flatT x.2 = true ∧ ∃ F0 h0 n0, SoundF P F0 ∧ F0 0 x.1 [] [] 0 = some (x.2, h0, n0)) (hF : SoundF P F) (hF2 : StatF F) : SoundF P (tab F l) ∧ StatF (tab F l) := by
 constructor
 ·intro cl g ar h n v h' n' he hg hcl φ w S cargs hv m
  cases ar with
  | cons a ar => exact hF cl g (a :: ar) h n v h' n' he hg hcl φ w S cargs hv m
  | nil =>
   change (Option.rec (F cl g [] h n) (fun v => some (v, h, n)) (tabGet l g) : Option (Value × Hp × Nat)) = _ at he
   cases hb : tabGet l g with
   | none => rw [hb] at he; exact hF cl g [] h n v h' n' he hg hcl φ w S cargs hv m
   | some u =>
    rw [hb] at he
    injection he with he
    injection he with e1 he
    injection he with e2 e3
    subst e1; subst e2; subst e3
    obtain ⟨hfl, F0, h0, n0, hF0, hr⟩ := hl _ (tabGet_some hb)
    have hca : cargs = [] := by
     cases cargs with
     | nil => rfl
     | cons _ _ => exact hv.elim
    subst hca
    refine Calls.mono (hF0 0 g [] [] 0 _ h0 n0 hr hg (Nat.le_refl _) (fun _ => none) w w.heap.size [] trivial ⟨fun _ _ => rfl, fun id g c hp => (by cases hp), fun id id' g c c' _ hp => (by cases hp), fun id _ => (by unfold Hp.get; rw [lget_eq]; simp), Nat.le_refl _⟩) fun e w' hh => ?_
    obtain ⟨v', φ', rfl, h1, f, m0⟩ := hh
    obtain rfl := flatT_eq hfl h1
    have hold : ∀ g, g < w.heap.size → w'.heap[g]? = w.heap[g]? := fun g hg => f.fr g hg fun id c h2 => by omega
    have fr : Fr φ φ h h n n (fun id => cl ≤ id) w w' := ⟨fun _ _ => rfl, fun g hg _ => hold g hg, fun _ _ _ => rfl, fun id g c h1 h2 => by omega, fun id id' g c c' h1 h2 => by omega, fun _ _ hd => hd, fun _ _ _ => rfl, Nat.le_refl _, f.sz, f.os, f.tape, f.output⟩
    refine ⟨_, φ, rfl, flatT_refl hfl, fr, m.step fr m.hb fun id g c _ hp => ?_⟩
    obtain ⟨o1, o2, o3⟩ := m.obj id g c hp
    exact ⟨o1.mono (le_.refl _) (hold g o3), o2, Nat.lt_of_lt_of_le o3 f.sz⟩
 ·intro cl g ar h n v h' n' he hcl hb
  cases ar with
  | cons a ar => exact hF2 cl g (a :: ar) h n v h' n' he hcl hb
  | nil =>
   change (Option.rec (F cl g [] h n) (fun v => some (v, h, n)) (tabGet l g) : Option (Value × Hp × Nat)) = _ at he
   cases hb' : tabGet l g with
   | none => rw [hb'] at he; exact hF2 cl g [] h n v h' n' he hcl hb
   | some u =>
    rw [hb'] at he
    injection he with he
    injection he with e1 he
    injection he with e2 e3
    subst e1; subst e2; subst e3
    exact Stat.same hb
variable {cl : Nat} {g : FuncId} {a : Value} {ar : List Value} {h : Hp} {n k d : Nat} {W : FuncId → Bool} {Φ : Value → Hp → Nat → Prop} {l : List (FuncId × Value)}
theorem Sp.tab (hs : Sp P F cl g (a :: ar) h n Φ) : Sp P (Ce.tab F l) cl g (a :: ar) h n Φ := hs
theorem Sp.known {v : Value} (hg : (goodF P g).isSome = true) (ht : tabGet l g = some v) : Sp P (Ce.tab F l) cl g [] h n fun v' h' n' => v' = v ∧ h' = h ∧ n' = n := by
 refine ⟨hg, v, h, n, ?_, rfl, rfl, rfl⟩
 show (Option.rec (F cl g [] h n) (fun v => some (v, h, n)) (tabGet l g) : Option (Value × Hp × Nat)) = _
 rw [ht]
theorem calls_tabA (hm : P.follows .mixedOrders = true) {l : List (FuncId × Value)} (hl : ∀ x ∈ l, flatT x.2 = true ∧ ∃ (W0 : FuncId → Bool) (k0 d0 : Nat) (h0 : Hp) (n0 : Nat), acall P W0 k0 d0 0 x.1 [] [] 0 = some (x.2, h0, n0)) {args vs : List Value} {w : World} (ha : args.map (visV w.heap.size) = vs)
  (hs : Sp P (afunc P (Ce.tab (acall P W k d) l) W k) w.heap.size g vs (absW w) w.heap.size fun v _ _ => v = .bool true) : Calls P g ⟨args⟩ w fun e w' => e = .returned (.bool true) ∧ Below w.heap.size w w' := by
 subst ha
 obtain ⟨hg, v, h', n', hr, rfl⟩ := hs
 have both := acall_both (P := P) hm W k d
 have bt := tab_both2 (l := l) (fun x hx => by
  obtain ⟨h1, W0, k0, d0, h0, n0, h2⟩ := hl x hx
  exact ⟨h1, _, h0, n0, (acall_both (P := P) hm W0 k0 d0).1, h2⟩) both.1 both.2
 refine Calls.mono (afunc_sound hm bt.1 bt.2 W k w.heap.size g _ _ _ _ h' n' hr (fun h0 => by rw [h0] at hg; cases hg) (Nat.le_refl _) (here w.heap.size) w 0 args (VL.visV _ _) (absW_mem P w)) fun e w' hh => ?_
 obtain ⟨v', φ', rfl, h1, f, m⟩ := hh
 obtain rfl := h1.bool
 exact ⟨rfl, f.os, f.tape, f.output, f.sz, fun g hg => f.fr g hg fun id c h1 h2 => by omega⟩
end
end Go.Proofs.Ytcpkdjikembpnaa.Ce
namespace Go.Proofs.Ytcpkdjikembpnaa.Ce
open Go.RowKit
noncomputable def tb15 : List (FuncId × Value) := [(25, .bool true)]
theorem alive15 (F : CallE) (cl : Nat) (h : Hp) (n : Nat) : Sp Try.prog (tab F tb15) cl 25 [] h n fun v h' n' => v = .bool true ∧ h = h' ∧ n = n' :=
 (Sp.known (by kernel_rfl) rfl).mono fun _ _ _ hp => ⟨hp.1, hp.2.1.symm, hp.2.2.symm⟩
end Go.Proofs.Ytcpkdjikembpnaa.Ce
namespace Go.Proofs.Ytcpkdjikembpnaa.Ce
open Go.RowKit
theorem sp_fixz {P : Program} {F : CallE} {cl n : Nat} {g : FuncId} {ar : List Value} {h : Hp} {Φ : Value → Hp → Nat → Prop} (hs : Sp P F cl g ar h n Φ) : ∃ v h' n', Φ v h' n' ∧ Sp P F cl g ar h n fun v2 h2 n2 => v2 = v ∧ h2 = h' ∧ n2 = n' := by
 obtain ⟨hg, v, h', n', hr, hp⟩ := hs
 exact ⟨v, h', n', hp, hg, v, h', n', hr, rfl, rfl, rfl⟩
theorem Sp.tab0 {P : Program} {F : CallE} {l : List (FuncId × Value)} {cl n : Nat} {g : FuncId} {h : Hp} {Φ : Value → Hp → Nat → Prop} (ht : tabGet l g = none) (hs : Sp P F cl g [] h n Φ) : Sp P (Ce.tab F l) cl g [] h n Φ := by
 obtain ⟨hg, v, h', n', hr, hp⟩ := hs
 refine ⟨hg, v, h', n', ?_, hp⟩
 show (Option.rec (F cl g [] h n) (fun v => some (v, h, n)) (tabGet l g) : Option (Value × Hp × Nat)) = _
 rw [ht]
 exact hr
variable (k d cl : Nat) (h : Hp) (n : Nat)
theorem bnewz_ev : SQ k (d + 1) cl 33 [] h n fun v h' n' => v = .agg ⟨[.int .u64 65536, .slice none 0 0]⟩ ∧ h = h' ∧ n = n' := by
 refine enter Try.func33 (by kernel_rfl) rfl (by kernel_rfl) rfl rfl rfl ?_
 (repeat' first | refine zcd ?_ | intro K' hK | (with_reducible refine zn hK ?_; clear hK) | fail | ((with_reducible first | apply zo1 | apply zo2 | apply o_guard rfl | apply x_cond | apply k_e1 rfl | apply k_e2 rfl | apply k_e0 rfl | apply k_e3 rfl | apply k_e4 rfl); (case he => exact ez0); (try case hok => exact ezO); all_goals try (intro hb; (try simp only [hbs, reduceCtorEq] at hb); try exact ezX)) | ((with_reducible apply o_undef rfl); (case hb => exact ez0)))
 all_goals exact sw_flat rfl rfl ⟨rfl, rfl, rfl⟩
theorem lvz_out (TA : Option Addr) (T : List Tp) (tc : Nat) (t dp : Int) (B4 : Bool) (hout : B4 = true ∨ dp < 0 ∨ 3 < dp) (hS1 : Sp Try.prog (tab (acall Try.prog WW k (d + 3100)) tb15) n 9 [.slice TA T.length tc] h n fun v2 h2 n2 => v2 = .bool B4 ∧ h = h2 ∧ n = n2) :
  Sp Try.prog (afunc Try.prog (tab (acall Try.prog WW k (d + 3100)) tb15) WW k) cl 8 [.slice TA T.length tc, .int .i64 t, .int .i64 dp] h n fun v h' n' => v = .bool true := by
 have hal2 := fun h6 n6 => alive15 (acall Try.prog WW k (d + 3100)) n h6 n6
 cases B4
 ·rcases Int.lt_or_le dp 0 with h0 | h0
  ·refine enterS Try.func8 (by kernel_rfl) rfl (by kernel_rfl) rfl rfl rfl ?_
   (repeat' first | refine zcd ?_ | intro K' hK | (with_reducible refine zn hK ?_; clear hK) | ((with_reducible apply o_callF (g := 25) w_none); (case ha => exact ez0); (case hs => (exact hal2 _ _)); (case' hk => rintro _ h' n' ⟨rfl, rfl, rfl⟩)) | ((with_reducible apply o_callF (g := 9) w_none); (case ha => exact ez0); (case hs => (exact hS1)); (case' hk => rintro _ h' n' ⟨rfl, rfl, rfl⟩)) | ((with_reducible first | apply zo1 | apply zo2 | apply o_guard rfl | apply x_cond | apply k_e1 rfl | apply k_e2 rfl | apply k_e0 rfl | apply k_e3 rfl | apply k_e4 rfl); (case he => exact ez0); (try case hok => exact ezO); all_goals try (intro hb; (try simp only [hbs, reduceCtorEq] at hb); try exact ezX)) | ((with_reducible apply o_undef rfl); (case hb => exact ez0)))
   all_goals exact sw_flat rfl rfl rfl
  ·have h3 : 3 < dp := by simpa using hout.resolve_left (by simp) |>.resolve_left (by omega)
   refine enterS Try.func8 (by kernel_rfl) rfl (by kernel_rfl) rfl rfl rfl ?_
   (repeat' first | refine zcd ?_ | intro K' hK | (with_reducible refine zn hK ?_; clear hK) | ((with_reducible apply o_callF (g := 25) w_none); (case ha => exact ez0); (case hs => (exact hal2 _ _)); (case' hk => rintro _ h' n' ⟨rfl, rfl, rfl⟩)) | ((with_reducible apply o_callF (g := 9) w_none); (case ha => exact ez0); (case hs => (exact hS1)); (case' hk => rintro _ h' n' ⟨rfl, rfl, rfl⟩)) | ((with_reducible first | apply zo1 | apply zo2 | apply o_guard rfl | apply x_cond | apply k_e1 rfl | apply k_e2 rfl | apply k_e0 rfl | apply k_e3 rfl | apply k_e4 rfl); (case he => exact ez0); (try case hok => exact ezO); all_goals try (intro hb; (try simp only [hbs, reduceCtorEq] at hb); try exact ezX)) | ((with_reducible apply o_undef rfl); (case hb => exact ez0)))
   all_goals exact sw_flat rfl rfl rfl
 ·refine enterS Try.func8 (by kernel_rfl) rfl (by kernel_rfl) rfl rfl rfl ?_
  (repeat' first | refine zcd ?_ | intro K' hK | (with_reducible refine zn hK ?_; clear hK) | ((with_reducible apply o_callF (g := 25) w_none); (case ha => exact ez0); (case hs => (exact hal2 _ _)); (case' hk => rintro _ h' n' ⟨rfl, rfl, rfl⟩)) | ((with_reducible apply o_callF (g := 9) w_none); (case ha => exact ez0); (case hs => (exact hS1)); (case' hk => rintro _ h' n' ⟨rfl, rfl, rfl⟩)) | ((with_reducible first | apply zo1 | apply zo2 | apply o_guard rfl | apply x_cond | apply k_e1 rfl | apply k_e2 rfl | apply k_e0 rfl | apply k_e3 rfl | apply k_e4 rfl); (case he => exact ez0); (try case hok => exact ezO); all_goals try (intro hb; (try simp only [hbs, reduceCtorEq] at hb); try exact ezX)) | ((with_reducible apply o_undef rfl); (case hb => exact ez0)))
  all_goals exact sw_flat rfl rfl rfl
theorem lvz_err (hk : 30000 ≤ k) (TA : Option Addr) (T : List Tp) (tc : Nat) (t dp : Int) (hd : 0 ≤ dp ∧ dp ≤ 3) (hT : TabH h n TA T) (hg4 : T.length ≤ 40 ∧ ∀ t ∈ T, t.fs.length ≤ 20) (hE : okE T t ≠ 0) (B4 : Bool) (hB4 : B4 = false) (hS1 : Sp Try.prog (tab (acall Try.prog WW k (d + 3100)) tb15) n 9 [.slice TA T.length tc] h n fun v2 h2 n2 => v2 = .bool B4 ∧ h = h2 ∧ n = n2) :
  Sp Try.prog (afunc Try.prog (tab (acall Try.prog WW k (d + 3100)) tb15) WW k) cl 8 [.slice TA T.length tc, .int .i64 t, .int .i64 dp] h n fun v h' n' => v = .bool true := by
 have hal2 := fun h6 n6 => alive15 (acall Try.prog WW k (d + 3100)) n h6 n6
 have hST : ∀ t ∈ T, t.fs.length ≤ 20000 := fun t ht => by have := hg4.2 t ht; omega
 have hmm : T.length ≤ 9223372036854775807 := by omega
 subst hB4
 have qz := fun (h6 : Hp) (n6 : Nat) (hT6 : TabH h6 n6 TA T) => Sp.tab (l := tb15) ((lsize_ev k (d + 3092) n h6 n6 hk TA T tc hT6 hST hmm t).mono (Φ' := fun v h' n' => v = .tuple ⟨[.int .i64 (szR 1048576 T t).1, .int .i64 (szR 1048576 T t).2.1, .int .i64 (szR 1048576 T t).2.2]⟩ ∧ h6 = h' ∧ n6 = n') fun _ _ _ hp => ⟨hp.1, hp.2.1.symm, hp.2.2.symm⟩)
 have hZ : ZeroR T t = .error (okE T t) := by unfold ZeroR; rw [if_pos hE]
 have q0 := fun (h6 : Hp) (n6 : Nat) (hT6 : TabH h6 n6 TA T) => Sp.tab (l := tb15) ((vzero0_ev k (d + 2000) n h6 n6 hk TA T tc hT6 hST hmm t).mono (Φ' := fun v h' n' => v = .tuple ⟨[.agg ⟨vcell 0 0 [] none 0 0 false⟩, .int .i64 (okE T t)]⟩ ∧ h6 = h' ∧ n6 = n') fun _ _ _ hp => by rw [hZ] at hp; exact ⟨hp.1, hp.2.2.1.symm, hp.2.2.2.symm⟩)
 have qa := fun (h6 : Hp) (n6 : Nat) (hT6 : TabH h6 n6 TA T) => Sp.tab (l := tb15) (rasked15_ev k (d + 3088) n h6 n6 hk TA T tc hT6 hST hmm t)
 obtain ⟨S, hS⟩ : ∃ S, szR 1048576 T t = S := ⟨_, rfl⟩
 have hEE : (S.2.2 ≠ 0 ∧ okE T t = S.2.2) ∨ (S.2.2 = 0 ∧ okE T t = 16) := by
  rw [← hS]
  unfold okE at *
  by_cases h1 : (szR 1048576 T t).2.2 ≠ 0
  ·left; rw [if_pos h1]; exact ⟨h1, rfl⟩
  ·right
   rw [if_neg h1] at hE ⊢
   by_cases h2 : ∀ x ∈ reachL T t.toNat, (szR 1048576 T x).2.2 = 0
   ·rw [if_pos h2] at hE; exact absurd rfl hE
   ·rw [if_neg h2]; exact ⟨Classical.not_not.1 h1, rfl⟩
 obtain ⟨O, hO⟩ : ∃ O, okE T t = O := ⟨_, rfl⟩
 obtain ⟨S1, S2, S3⟩ := S
 simp only [hS, hO] at qz q0 qa hEE hE
 rcases hEE with ⟨h3, rfl⟩ | ⟨rfl, rfl⟩
 ·refine enterS Try.func8 (by kernel_rfl) rfl (by kernel_rfl) rfl rfl rfl ?_
  (repeat' first | refine zcd ?_ | intro K' hK | (with_reducible refine zn hK ?_; clear hK) | ((with_reducible apply o_callF (g := 25) w_none); (case ha => exact ez0); (case hs => (exact hal2 _ _)); (case' hk => rintro _ h' n' ⟨rfl, rfl, rfl⟩)) | ((with_reducible apply o_callF (g := 9) w_none); (case ha => exact ez0); (case hs => (exact hS1)); (case' hk => rintro _ h' n' ⟨rfl, rfl, rfl⟩)) | ((with_reducible apply o_callF (g := 27) w_none); (case ha => exact ez0); (case hs => ((with_reducible apply qz); exact ezT hT)); (case' hk => rintro _ h' n' ⟨rfl, rfl, rfl⟩)) | ((with_reducible apply o_callF (g := 13) w_none); (case ha => exact ez0); (case hs => ((with_reducible apply q0); exact ezT hT)); (case' hk => rintro _ h' n' ⟨rfl, rfl, rfl⟩)) | ((with_reducible first | apply zo1 | apply zo2 | apply o_guard rfl | apply x_cond | apply k_e1 rfl | apply k_e2 rfl | apply k_e0 rfl | apply k_e3 rfl | apply k_e4 rfl); (case he => exact ez0); (try case hok => exact ezO); all_goals try (intro hb; (try simp only [hbs, reduceCtorEq] at hb); try exact ezX)) | ((with_reducible apply o_undef rfl); (case hb => exact ez0)))
  all_goals exact sw_flat rfl rfl rfl
 ·refine enterS Try.func8 (by kernel_rfl) rfl (by kernel_rfl) rfl rfl rfl ?_
  (repeat' first | refine zcd ?_ | intro K' hK | (with_reducible refine zn hK ?_; clear hK) | ((with_reducible apply o_callF (g := 25) w_none); (case ha => exact ez0); (case hs => (exact hal2 _ _)); (case' hk => rintro _ h' n' ⟨rfl, rfl, rfl⟩)) | ((with_reducible apply o_callF (g := 9) w_none); (case ha => exact ez0); (case hs => (exact hS1)); (case' hk => rintro _ h' n' ⟨rfl, rfl, rfl⟩)) | ((with_reducible apply o_callF (g := 27) w_none); (case ha => exact ez0); (case hs => ((with_reducible apply qz); exact ezT hT)); (case' hk => rintro _ h' n' ⟨rfl, rfl, rfl⟩)) | ((with_reducible apply o_callF (g := 13) w_none); (case ha => exact ez0); (case hs => ((with_reducible apply q0); exact ezT hT)); (case' hk => rintro _ h' n' ⟨rfl, rfl, rfl⟩)) | ((with_reducible apply o_callF (g := 36) w_none); (case ha => exact ez0); (case hs => ((with_reducible apply qa); exact ezT hT)); (case' hk => rintro _ h' n' ⟨rfl, rfl, rfl⟩)) | ((with_reducible first | apply zo1 | apply zo2 | apply o_guard rfl | apply x_cond | apply k_e1 rfl | apply k_e2 rfl | apply k_e0 rfl | apply k_e3 rfl | apply k_e4 rfl); (case he => exact ez0); (try case hok => exact ezO); all_goals try (intro hb; (try simp only [hbs, reduceCtorEq] at hb); try exact ezX)) | ((with_reducible apply o_undef rfl); (case hb => exact ez0)))
  all_goals exact sw_flat rfl rfl rfl
theorem lvz_in (hk : 30000 ≤ k) (TA : Option Addr) (T : List Tp) (tc : Nat) (t dp : Int) (hd : 0 ≤ dp ∧ dp ≤ 3) (hT : TabH h n TA T) (hg4 : T.length ≤ 40 ∧ ∀ t ∈ T, t.fs.length ≤ 20) (hE : okE T t = 0) (B4 : Bool) (hB4 : B4 = false) (hS1 : Sp Try.prog (tab (acall Try.prog WW k (d + 3100)) tb15) n 9 [.slice TA T.length tc] h n fun v2 h2 n2 => v2 = .bool B4 ∧ h = h2 ∧ n = n2) :
  Sp Try.prog (afunc Try.prog (tab (acall Try.prog WW k (d + 3100)) tb15) WW k) cl 8 [.slice TA T.length tc, .int .i64 t, .int .i64 dp] h n fun v h' n' => v = .bool true := by
 have hal2 := fun h6 n6 => alive15 (acall Try.prog WW k (d + 3100)) n h6 n6
 have hST : ∀ t ∈ T, t.fs.length ≤ 20000 := fun t ht => by have := hg4.2 t ht; omega
 have hmm : T.length ≤ 9223372036854775807 := by omega
 subst hB4
 obtain ⟨x, rfl, ho⟩ := okE_0 hE
 have hxl := ho.lt
 have hx32 := ho.chk.1
 have hbd := ho.bnd
 have hpos := siz_pos (x + 1) ho (by omega)
 obtain ⟨z, hz⟩ := Int.eq_ofNat_of_zero_le hbd.1
 obtain ⟨al, hal⟩ : ∃ al, ((eRow 1048576 T).at_ (x : Int)).2 = al := ⟨_, rfl⟩
 have qz := fun (h6 : Hp) (n6 : Nat) (hT6 : TabH h6 n6 TA T) => Sp.tab (l := tb15) ((lsize_ev k (d + 3092) n h6 n6 hk TA T tc hT6 hST hmm (x : Int)).mono (Φ' := fun v h' n' => v = .tuple ⟨[.int .i64 (z : Int), .int .i64 al, .int .i64 0]⟩ ∧ h6 = h' ∧ n6 = n') fun _ _ _ hp => by rw [ho.size, hz, hal] at hp; exact ⟨hp.1, hp.2.1.symm, hp.2.2.symm⟩)
 have hZ : ZeroR T x = .ok (zeroV T 1000 x) := by unfold ZeroR; rw [if_neg (not_not_intro hE), Int.toNat_natCast]
 have hfit := zero_fits (dp := 3) 32 1000 x ho (by omega) (by omega)
 have hstp := zero_store (lim := 0) (hs := []) 32 1000 x ho (by omega) (by omega)
 have hbz := zero_bd 32 1000 x ho (by omega) (by omega)
 rw [hz, Int.toNat_natCast] at hstp
 have hld := fun (A : Option Addr) (c : Nat) => zero_LoadR hE ho (m := z) (c := c) (A := A) hz (by omega) (dp := dp) hd
 obtain ⟨Z, hZe⟩ : ∃ Z, zeroV T 1000 x = Z := ⟨_, rfl⟩
 rw [hZe] at hZ hfit hstp hbz
 simp only [hZe] at hld
 have q0 := fun (h6 : Hp) (n6 : Nat) (hT6 : TabH h6 n6 TA T) => Sp.tab (l := tb15) ((vzero0_ev k (d + 2000) n h6 n6 hk TA T tc hT6 hST hmm (x : Int)).mono (Φ' := LdU Z 0 h6 n6) fun _ _ _ hp => by rw [hZ] at hp; exact hp.uni)
 have qn := fun (h6 : Hp) (n6 : Nat) => Sp.tab0 (l := tb15) (by kernel_rfl) (bnewz_ev k (d + 3099) n h6 n6)
 have hsR : storeR T 0 32 65536 [] x Z = .ok ([], zb z) := by
  unfold storeR
  rw [if_neg (not_not_intro hE), if_neg (by decide), Int.toNat_natCast, if_pos hfit, hstp]
 have qs := fun (h6 : Hp) (n6 : Nat) (cs : List Value) (hT6 : TabH h6 n6 TA T) (hv6 : VH h6 n6 Z cs) => Sp.tab (l := tb15) ((vstore_ev k (d + 2928) n h6 n6 hk TA T tc hT6 hST hmm 0 32 x Z hbz cs hv6 65536 none 0 [] RdH.nil (fun _ => rfl) (.inl rfl) (by simp)).mono (Φ' := StV (.ok ([], zb z)) none h6 n6) fun _ _ _ hp => by rw [hsR] at hp; exact hp)
 have qs : ∀ (h6 : Hp) (n6 : Nat) (cs : List Value), TabH h6 n6 TA T → VH h6 n6 Z cs → Sp Try.prog (tab (acall Try.prog WW k (d + 3100)) tb15) n 19 [.slice TA T.length tc, .agg ⟨[.int .u64 65536, .slice none 0 0]⟩, .int .i64 0, .int .i64 x, .agg ⟨cs⟩] h6 n6 (StV (.ok ([], zb z)) none h6 n6) := qs
 have hck : chkV T 32 x Z = 0 := by unfold chkV; rw [if_neg (not_not_intro hE), Int.toNat_natCast, if_pos hfit]
 have qv := fun (h6 : Hp) (n6 : Nat) (cs : List Value) (hT6 : TabH h6 n6 TA T) (hv6 : VH h6 n6 Z cs) => Sp.tab (l := tb15) ((vchk_ev k (d + 2929) n h6 n6 hk TA T tc hT6 hST hmm 32 x Z hbz cs hv6).mono (Φ' := fun w h' n' => w = .int .i64 0 ∧ h6 = h' ∧ n6 = n') fun _ _ _ hp => by rw [hck] at hp; exact hp)
 have qL := fun (id m : Nat) (h6 : Hp) (n6 : Nat) (hT6 : TabH h6 n6 TA T) (r6 : rowOf h6 id = some (29, false, [.int .u64 64, .slice (some ⟨m, 0, none⟩) z z])) (hid : id < n6) (rm : RdH h6 n6 (some ⟨m, 0, none⟩) (bv (zb z))) => Sp.tab (l := tb15) ((vload_ev k d n h6 n6 hk TA (some ⟨id, 0, none⟩) T [⟨64, zb z, some ⟨m, 0, none⟩, z⟩] tc 1 hT6 hST hmm (by
   refine ⟨RdH.ofRow (ro := false) (e := 29) (by rw [r6]; show _ = some (_, false, [Value.int .u64 64, Value.slice _ (zb z).length z]); rw [zb_length]) hid, fun g hg => ?_, fun g hg => ?_, fun g hg => ?_, fun g hg => ?_⟩
   all_goals obtain rfl := List.mem_singleton.1 hg
   ·exact rm
   ·exact fun e => by cases e
   ·dsimp only; omega
   ·dsimp only; rw [zb_length]; omega) (by simp) 64 x dp (by omega) (by omega)).mono (Φ' := LdU Z 0 h6 n6) fun _ _ _ hp => by rw [hld] at hp; exact hp.uni)
 have qL : ∀ (id m : Nat) (h6 : Hp) (n6 : Nat), TabH h6 n6 TA T → rowOf h6 id = some (29, false, [.int .u64 64, .slice (some ⟨m, 0, none⟩) z z]) → id < n6 → RdH h6 n6 (some ⟨m, 0, none⟩) (bv (zb z)) → Sp Try.prog (tab (acall Try.prog WW k (d + 3100)) tb15) n 11 [.slice TA T.length tc, .slice (some ⟨id, 0, none⟩) 1 1, .int .u64 64, .int .i64 x, .int .i64 dp] h6 n6 (LdU Z 0 h6 n6) := qL
 have rs := fun (h6 : Hp) (n6 : Nat) (cs cs' : List Value) (va : VH h6 n6 Z cs) (vb : VH h6 n6 Z cs') => Sp.tab (l := tb15) ((rsamev_ev k hk 32 Z Z (d + 3068) n h6 n6 cs cs' hbz va vb).mono (Φ' := fun v h' n' => v = .bool true ∧ h6 = h' ∧ n6 = n') fun _ _ _ hp => ⟨by rw [hp.1, sameV_t], hp.2.1.symm, hp.2.2.symm⟩)
 refine enterS Try.func8 (by kernel_rfl) rfl (by kernel_rfl) rfl rfl rfl ?_
 (repeat' first | refine zcd ?_ | intro K' hK | (with_reducible refine zn hK ?_; clear hK) | ((with_reducible apply o_callF (g := 25) w_none); (case ha => exact ez0); (case hs => (exact hal2 _ _)); (case' hk => rintro _ h' n' ⟨rfl, rfl, rfl⟩)) | ((with_reducible apply o_callF (g := 9) w_none); (case ha => exact ez0); (case hs => (exact hS1)); (case' hk => rintro _ h' n' ⟨rfl, rfl, rfl⟩)) | ((with_reducible apply o_callF (g := 27) w_none); (case ha => exact ez0); (case hs => ((with_reducible apply qz); exact ezT hT)); (case' hk => rintro _ h' n' ⟨rfl, rfl, rfl⟩)) | ((with_reducible apply o_callF (g := 13) w_none); (case ha => exact ez0); (case hs => ((with_reducible apply q0); exact ezT hT)); (case' hk => rintro _ h' n' ⟨A1, cc1, rfl, v1, hn1, hk1⟩)) | ((with_reducible first | apply zo1 | apply zo2 | apply o_guard rfl | apply x_cond | apply k_e1 rfl | apply k_e2 rfl | apply k_e0 rfl | apply k_e3 rfl | apply k_e4 rfl); (case he => exact ez0); (try case hok => exact ezO); all_goals try (intro hb; (try simp only [hbs, reduceCtorEq] at hb); try exact ezX)) | ((with_reducible apply o_undef rfl); (case hb => exact ez0)))
 obtain ⟨h1, rfl⟩ : ∃ y, y = h' := ⟨_, rfl⟩
 obtain ⟨n1, rfl⟩ : ∃ y, y = n' := ⟨_, rfl⟩
 have hT1 : TabH h1 n TA T := hT.keep (Nat.le_refl _) hk1
 clear q0 qz hS1 hal2
 (repeat' first | refine zcd ?_ | intro K' hK | (with_reducible refine zn hK ?_; clear hK) | (with_reducible refine x_drawnD (id := 8) [(1, 3)] (by kernel_rfl) fun K' hK => ?_) | ((with_reducible apply d_nil); (case hp => exact ezP); (case' hx => (refine hK _ _ _ ?_; clear hK))) | ((with_reducible apply d_pure w_none); (case hp => exact rfl); (case hc => exact rfl); (case he => exact ez0)) | ((with_reducible apply d_eff w_none); (case hc => exact rfl); (case he => exact ez0); (case hok => exact ezO)) | ((with_reducible apply d_guard rfl); (case hb => exact ez0); (case' h1 => intro hb; (try simp only [hbs, reduceCtorEq] at hb); try exact ezX); (case' h2 => intro hb; (try simp only [hbs, reduceCtorEq] at hb); try exact ezX)) | ((with_reducible apply d_callS (g := 33) w_none); (case hs0 => exact rfl); (case ha => exact ez0); (case hs => (exact qn _ _)); (case' hk => rintro _ h' n' ⟨rfl, rfl, rfl⟩)) | ((with_reducible apply d_callN (g := 33) w_none); (case hs0 => exact rfl); (case ha => exact ez0); (case hs => (exact qn _ _)); (case' hk => rintro _ h' n' ⟨rfl, rfl, rfl⟩)) | ((with_reducible apply d_callS (g := 19) w_none); (case hs0 => exact rfl); (case ha => exact ez0); (case hs => ((with_reducible apply qs); (all_goals first | exact ezT hT1 | ((refine VH.more (B := n1) ?_ (by omega)); (repeat' first | exact v1 | refine VH.set ?_ (by omega) _))))); (case' hk => rintro _ h' n' ⟨A3, c3, bid, rfl, hr3, ho3, hne3, hb1, hb2, hb3, hn2, hk2⟩)) | ((with_reducible apply d_callN (g := 19) w_none); (case hs0 => exact rfl); (case ha => exact ez0); (case hs => ((with_reducible apply qs); (all_goals first | exact ezT hT1 | ((refine VH.more (B := n1) ?_ (by omega)); (repeat' first | exact v1 | refine VH.set ?_ (by omega) _))))); (case' hk => rintro _ h' n' ⟨A3, c3, bid, rfl, hr3, ho3, hne3, hb1, hb2, hb3, hn2, hk2⟩)) | ((with_reducible first | apply zo1 | apply zo2 | apply o_guard rfl | apply x_cond | apply k_e1 rfl | apply k_e2 rfl | apply k_e0 rfl | apply k_e3 rfl | apply k_e4 rfl); (case he => exact ez0); (try case hok => exact ezO); all_goals try (intro hb; (try simp only [hbs, reduceCtorEq] at hb); try exact ezX)) | ((with_reducible apply o_undef rfl); (case hb => exact ez0)))
 obtain ⟨h2, rfl⟩ : ∃ y, y = h' := ⟨_, rfl⟩
 obtain ⟨n2, rfl⟩ : ∃ y, y = n' := ⟨_, rfl⟩
 have b2 : ∀ b, b < n → h2.get b = h.get b := fun b hb => by rw [hk2 _ (by omega)]; (repeat rw [Hp.get_ne _ _ (by omega)]); exact hk1 b hb
 have hT2 : TabH h2 n TA T := hT.keep (Nat.le_refl _) b2
 have r11 : rowOf h2 n1 = some (32, false, vcell Z.kd Z.i Z.s A1 Z.l.length cc1 Z.c) := by rw [rowOf_keep (hk2 _ (by omega))]; exact ez0
 have v2 : VH h2 n2 Z (vcell Z.kd Z.i Z.s A1 Z.l.length cc1 Z.c) := v1.keep (by omega) fun q hq => by rw [hk2 _ (by omega)]; (repeat rw [Hp.get_ne _ _ (by omega)])
 have hmz : bv (List.replicate z 0) = bv (zb z) := rfl
 have hmx : (if (1 : Int) > (z : Int) then (1 : Int) else (z : Int)) = (z : Int) := by rw [if_neg]; omega
 have f11 := cellsAt_row (off := 0) (k := 5) r11
 clear hk2 qs
 (repeat' first | refine zcd ?_ | intro K' hK | (with_reducible refine zn hK ?_; clear hK) | ((with_reducible apply d_nil); (case hp => exact ezP); (case' hx => (refine hK _ _ _ ?_; clear hK))) | ((with_reducible apply d_pure w_none); (case hp => exact rfl); (case hc => exact rfl); (case he => exact ez0)) | ((with_reducible apply d_eff w_none); (case hc => exact rfl); (case he => exact ez0); (case hok => exact ezO)) | ((with_reducible apply d_guard rfl); (case hb => exact ez0); (case' h1 => intro hb; (try simp only [hbs, reduceCtorEq] at hb); try exact ezX); (case' h2 => intro hb; (try simp only [hbs, reduceCtorEq] at hb); try exact ezX)) | ((with_reducible first | apply zo1 | apply zo2 | apply o_guard rfl | apply x_cond | apply k_e1 rfl | apply k_e2 rfl | apply k_e0 rfl | apply k_e3 rfl | apply k_e4 rfl); (case he => exact ez0); (try case hok => exact ezO); all_goals try (intro hb; (try simp only [hbs, reduceCtorEq] at hb); try exact ezX)) | ((with_reducible apply o_undef rfl); (case hb => exact ez0)))
 simp only [hmx, Int.toNat_natCast, mk_bz, hmz]
 (repeat' first | refine zcd ?_ | intro K' hK | (with_reducible refine zn hK ?_; clear hK) | ((with_reducible apply o_callF (g := 11) w_none); (case ha => exact ez0); (case hs => ((with_reducible apply qL); (all_goals first | exact ezT hT2 | exact ez0 | omega | (repeat' (first | with_reducible exact RdH.row (by omega) | with_reducible refine RdH.ne ?_ (by omega) _))))); (case' hk => rintro _ h' n' ⟨A4, cc4, rfl, v4, hn4, hk4⟩)) | ((with_reducible first | apply zo1 | apply zo2 | apply o_guard rfl | apply x_cond | apply k_e1 rfl | apply k_e2 rfl | apply k_e0 rfl | apply k_e3 rfl | apply k_e4 rfl); (case he => exact ez0); (try case hok => exact ezO); all_goals try (intro hb; (try simp only [hbs, reduceCtorEq] at hb); try exact ezX)) | ((with_reducible apply o_undef rfl); (case hb => exact ez0)))
 obtain ⟨h4, rfl⟩ : ∃ y, y = h' := ⟨_, rfl⟩
 obtain ⟨n4, rfl⟩ : ∃ y, y = n' := ⟨_, rfl⟩
 have b4 : ∀ b, b < n → h4.get b = h.get b := fun b hb => by rw [hk4 _ (by omega)]; (repeat rw [Hp.get_ne _ _ (by omega)]); exact b2 b hb
 have hT4 : TabH h4 n TA T := hT.keep (Nat.le_refl _) b4
 have r11' : rowOf h4 n1 = some (32, false, vcell Z.kd Z.i Z.s A1 Z.l.length cc1 Z.c) := by rw [rowOf_keep (hk4 _ (by omega))]; (repeat rw [rowOf_ne _ _ (by omega)]); exact r11
 have r13 : rowOf h4 n2 = some (29, false, [.int .u64 65536, .slice A3 0 c3]) := by rw [rowOf_keep (hk4 _ (by omega))]; exact ez0
 have r14 : rowOf h4 bid = some (5, false, bv (zb z)) := by rw [rowOf_keep (hk4 _ (by omega))]; (repeat rw [rowOf_ne _ _ (by omega)]); exact hb3
 have r15 : rowOf h4 (n2 + 1) = some (5, false, bv (zb z)) := by rw [rowOf_keep (hk4 _ (by omega))]; exact ez2 mk_bz hmz
 have r16 : rowOf h4 (n2 + 1 + 1) = some (29, false, [.int .u64 64, .slice (some ⟨n2 + 1, 0, none⟩) z z]) := by rw [rowOf_keep (hk4 _ (by omega))]; exact ez0
 have v2' : VH h4 n4 Z (vcell Z.kd Z.i Z.s A1 Z.l.length cc1 Z.c) := v2.keep (by omega) fun q hq => by rw [hk4 _ (by omega)]; (repeat rw [Hp.get_ne _ _ (by omega)])
 have g11 := cellsAt_row (off := 0) (k := 5) r11'
 have g13 := cellAt_row (off := 1) r13
 have g16 := cellAt_row (off := 1) r16
 clear hk4 qL r11 hb3 r11' r13 r16
 have u1 := fun (y : AObj) => (v2'.set (id := n4) (Nat.le_refl _) y).more (B' := n4 + 1) (by omega)
 have u2 := fun (y : AObj) => (v4.set (id := n4) (Nat.le_refl _) y).more (B' := n4 + 1) (by omega)
 have hzl := zb_length z
 (repeat' first | refine zcd ?_ | intro K' hK | (with_reducible refine zn hK ?_; clear hK) | (with_reducible refine x_drawnD (id := 11) [(30, 32), (30, 35), (43, 44)] (by kernel_rfl) fun K' hK => ?_) | ((with_reducible apply d_nil); (case hp => exact ezP); (case' hx => (refine hK _ _ _ ?_; clear hK))) | ((with_reducible apply d_pure w_none); (case hp => exact rfl); (case hc => exact rfl); (case he => exact ez6 g11 g13 g16 @b_strEql @b_self hzl)) | ((with_reducible apply d_eff w_none); (case hc => exact rfl); (case he => exact ez6 g11 g13 g16 @b_strEql @b_self hzl); (case hok => exact ezO)) | ((with_reducible apply d_guard rfl); (case hb => exact ez6 g11 g13 g16 @b_strEql @b_self hzl); (case' h1 => intro hb; (try simp only [hbs, reduceCtorEq] at hb); try exact ezX); (case' h2 => intro hb; (try simp only [hbs, reduceCtorEq] at hb); try exact ezX)) | ((with_reducible apply d_callS (g := 21) w_none); (case hs0 => exact rfl); (case ha => exact ez0); (case hs => ((with_reducible apply qv); (all_goals first | exact ezT hT4 | exact u1 _))); (case' hk => rintro _ h' n' ⟨rfl, rfl, rfl⟩)) | ((with_reducible apply d_callN (g := 21) w_none); (case hs0 => exact rfl); (case ha => exact ez0); (case hs => ((with_reducible apply qv); (all_goals first | exact ezT hT4 | exact u1 _))); (case' hk => rintro _ h' n' ⟨rfl, rfl, rfl⟩)) | ((with_reducible apply d_b2s (xs := zb z) (B := n4 + 50) b2T27_9 w_none); (case hy => exact ez1 hzl); (case hr => first | exact RdH.ofRow ((rowOf_ne _ _ (by omega)).trans r14) (by omega) | exact RdH.ofRow ((rowOf_ne _ _ (by omega)).trans r15) (by omega)); (case h0 => intro h; cases h); (case' hx => intro rd)) | ((with_reducible apply d_callS (g := 15) w_none); (case hs0 => exact rfl); (case ha => exact ez0); (case hs => ((with_reducible apply rs); (all_goals first | exact u1 _ | exact u2 _))); (case' hk => rintro _ h' n' ⟨rfl, rfl, rfl⟩)) | ((with_reducible apply d_callN (g := 15) w_none); (case hs0 => exact rfl); (case ha => exact ez0); (case hs => ((with_reducible apply rs); (all_goals first | exact u1 _ | exact u2 _))); (case' hk => rintro _ h' n' ⟨rfl, rfl, rfl⟩)) | ((with_reducible first | apply zo1 | apply zo2 | apply o_guard rfl | apply x_cond | apply k_e1 rfl | apply k_e2 rfl | apply k_e0 rfl | apply k_e3 rfl | apply k_e4 rfl); (case he => exact ez0); (try case hok => exact ezO); all_goals try (intro hb; (try simp only [hbs, reduceCtorEq] at hb); try exact ezX)) | ((with_reducible apply o_undef rfl); (case hb => exact ez0)))
 all_goals exact sw_flat rfl rfl rfl
theorem valueZeros_ev (hk : 30000 ≤ k) (TA : Option Addr) (T : List Tp) (tc : Nat) (t dp : Int) (hT : TabH h n TA T) (hm : T.length ≤ 9223372036854775807) (hS0 : ∀ t ∈ T, t.fs.length ≤ 9223372036854775807) :
  Sp Try.prog (afunc Try.prog (tab (acall Try.prog WW k (d + 3100)) tb15) WW k) cl 8 [.slice TA T.length tc, .int .i64 t, .int .i64 dp] h n fun v h' n' => v = .bool true := by
 obtain ⟨v, h2, n2, ⟨B, rfl, hg, hh2, hn2⟩, hB⟩ := sp_fixz (tgreat_ev k (d + 3099) n h n hk TA T tc hT hm hS0)
 have hS1 : Sp Try.prog (tab (acall Try.prog WW k (d + 3100)) tb15) n 9 [.slice TA T.length tc] h n fun v2 h2 n2 => v2 = .bool B ∧ h = h2 ∧ n = n2 := Sp.tab (l := tb15) (hB.mono fun _ _ _ hp => ⟨hp.1, by rw [hp.2.1, hh2], by rw [hp.2.2, hn2]⟩)
 by_cases hout : B = true ∨ dp < 0 ∨ 3 < dp
 ·exact lvz_out k d cl h n TA T tc t dp B hout hS1
 ·have hB : B = false := by cases B <;> simp_all
  subst hB
  by_cases hE : okE T t = 0
  ·exact lvz_in k d cl h n hk TA T tc t dp (by omega) hT (hg rfl) hE _ rfl hS1
  ·exact lvz_err k d cl h n hk TA T tc t dp (by omega) hT (hg rfl) hE _ rfl hS1
end Go.Proofs.Ytcpkdjikembpnaa.Ce
