/- Parts of the proof of ValueElsewhere: Cut, Tk, Ec, Eb. No condition of its own. -/
import Derived.Test.YtcpkdjikembpnaaVeag
import Derived.Test.YtcpkdjikembpnaaVeah
import Derived.Test.YtcpkdjikembpnaaVeaj
import Derived.Test.YtcpkdjikembpnaaVeak
import Derived.Test.YtcpkdjikembpnaaVean
import Derived.Test.YtcpkdjikembpnaaVeat
set_option linter.unusedVariables false
set_option linter.unusedSimpArgs false
set_option maxRecDepth 100000
set_option maxHeartbeats 4000000
namespace Go.Proofs.Ytcpkdjikembpnaa.Ce
open Go.RowKit
def tk : Nat → Code → Code
  | n + 1, .seq x y => .seq x (tk n y)
  | _, _ => .skip
def dr : Nat → Code → Code
  | n + 1, .seq x y => dr n y
  | _, c => c
def app : Code → Code → Code
  | .seq x y, c => app x (app y c)
  | x, c => .seq x c
def hd : Code → Option Code
  | .seq x _ => some x
  | _ => none
def flatT : Value → Bool
  | .tuple cs => cs.toList.all flat1
  | v => flat1 v
def bz (l : List Nat) : List Value := l.map fun n => .int .u8 (Int.ofNat n)
def bodyOf (P : Program) (f : FuncId) : Code := match P.funcs[f]? with
  | some fn => fn.body.getD .skip
  | none => .skip
def ntOf (P : Program) (f : FuncId) : Nat := match P.funcs[f]? with
  | some fn => fn.ntmps
  | none => 0
section
variable {P : Program} {F : CallE} {k lim S : Nat} {φ : Mp}
theorem cut_at (n : Nat) : ∀ {c : Code} {st st1 : St} {r : Option (Ex × St)}, acode P F k lim (tk n c) st = some (0, st1) → acode P F k lim (dr n c) st1 = r → acode P F k lim c st = r := by
  induction n with
  | zero =>
    intro c st st1 r h1 h2
    have e : st = st1 := by
      have h1' : (some (0, st) : Option (Ex × St)) = some (0, st1) := h1
      injection h1' with h1'
      injection h1'
    subst e
    exact h2
  | succ n ih =>
    intro c st st1 r h1 h2
    cases c with
    | seq x y =>
      change (acode P F k lim x st).bind (fun r => bif Nat.beq r.1 0 then acode P F k lim (tk n y) r.2 else some r) = some (0, st1) at h1
      show (acode P F k lim x st).bind (fun r => bif Nat.beq r.1 0 then acode P F k lim y r.2 else some r) = r
      obtain ⟨r1, h3, h4⟩ := bind_some h1
      rw [h3]
      dsimp only [Option.bind_some]
      cases hb : Nat.beq r1.1 0 with
      | true =>
        rw [hb] at h4
        exact ih h4 h2
      | false =>
        rw [hb] at h4
        injection h4 with h4
        rw [h4] at hb
        cases hb
    | _ =>
      have e : st = st1 := by
        have h1' : (some (0, st) : Option (Ex × St)) = some (0, st1) := h1
        injection h1' with h1'
        injection h1'
      subst e
      exact h2
theorem seq_assoc (x y z : Code) : acode P F k lim (.seq x (.seq y z)) = acode P F k lim (.seq (.seq x y) z) := by
  funext st
  show (acode P F k lim x st).bind (fun r => bif Nat.beq r.1 0 then (acode P F k lim y r.2).bind (fun r => bif Nat.beq r.1 0 then acode P F k lim z r.2 else some r) else some r) =
    ((acode P F k lim x st).bind (fun r => bif Nat.beq r.1 0 then acode P F k lim y r.2 else some r)).bind (fun r => bif Nat.beq r.1 0 then acode P F k lim z r.2 else some r)
  cases acode P F k lim x st with
  | none => rfl
  | some r =>
    dsimp only [Option.bind_some]
    cases hb : Nat.beq r.1 0 with
    | true => rfl
    | false => simp [hb]
theorem app_eq : ∀ (x y : Code), acode P F k lim (app x y) = acode P F k lim (.seq x y) := by
  intro x
  induction x with
  | seq a b iha ihb =>
    intro y
    show acode P F k lim (app a (app b y)) = _
    rw [iha, ← seq_assoc]
    have := ihb y
    funext st
    show (acode P F k lim a st).bind (fun r => bif Nat.beq r.1 0 then acode P F k lim (app b y) r.2 else some r) = _
    rw [this]
    rfl
  | _ => intro y; rfl
theorem flat_law {c : Code} {st : St} {r : Option (Ex × St)} (h : acode P F k lim (app c .skip) st = r) : acode P F k lim c st = r := by
  rw [app_eq] at h
  rw [← h]
  show _ = (acode P F k lim c st).bind (fun r => bif Nat.beq r.1 0 then some (0, r.2) else some r)
  cases acode P F k lim c st with
  | none => rfl
  | some r =>
    obtain ⟨ex, s⟩ := r
    dsimp only [Option.bind_some]
    cases ex <;> rfl
theorem VLB.flat_eq : ∀ {l m : List Value}, l.all flat1 = true → VL (VB φ) l m → m = l
  | [], [], _, _ => rfl
  | a :: l, b :: m, h, hv => by
    simp only [List.all_cons, Bool.and_eq_true] at h
    rw [(hv.1.vc).flat_eq h.1, VLB.flat_eq h.2 hv.2]
  | [], _ :: _, _, h => h.elim
  | _ :: _, [], _, h => h.elim
theorem VLB.flat_refl : ∀ {l : List Value}, l.all flat1 = true → VL (VB φ) l l
  | [], _ => trivial
  | a :: l, h => by
    simp only [List.all_cons, Bool.and_eq_true] at h
    exact ⟨VA.vb (VA.flat h.1), VLB.flat_refl h.2⟩
theorem flatT_eq {u v : Value} (hf : flatT u = true) (h : VC φ u v) : v = u := by
  cases u with
  | tuple cs =>
    obtain ⟨ds, rfl, h2⟩ := h
    have := VLB.flat_eq (show cs.toList.all flat1 = true from hf) h2
    congr 1
    exact Array.toList_inj.1 this
  | _ => exact VC.flat_eq (show flat1 _ = true from hf) h
theorem flatT_refl {u : Value} (hf : flatT u = true) : VC φ u u := by
  cases u with
  | tuple cs => exact ⟨cs, rfl, VLB.flat_refl (show cs.toList.all flat1 = true from hf)⟩
  | _ => exact VB.vc (VA.vb (VA.flat (show flat1 _ = true from hf)))
noncomputable def tabGet (l : List (FuncId × Value)) (g : FuncId) : Option Value := List.rec none (fun x _ ih => bif Nat.beq x.1 g then some x.2 else ih) l
theorem tabGet_some : ∀ {l : List (FuncId × Value)} {g : FuncId} {v : Value}, tabGet l g = some v → (g, v) ∈ l
  | [], g, v, h => by cases h
  | x :: l, g, v, h => by
    change (bif Nat.beq x.1 g then some x.2 else tabGet l g) = some v at h
    cases hb : Nat.beq x.1 g with
    | true =>
      rw [hb] at h
      injection h with h
      have := Nat.eq_of_beq_eq_true hb
      subst h; subst this
      exact List.mem_cons_self
    | false =>
      rw [hb] at h
      exact List.mem_cons_of_mem _ (tabGet_some h)
noncomputable def tab (F : CallE) (l : List (FuncId × Value)) : CallE := fun cl g as' h n => match as' with
  | [] => Option.rec (F cl g [] h n) (fun v => some (v, h, n)) (tabGet l g)
  | a :: as' => F cl g (a :: as') h n
theorem tab_nil (F : CallE) : tab F [] = F := by funext cl g as' h n; cases as' <;> rfl
theorem cut_law {W : FuncId → Bool} {F : CallE} {f : FuncId} {c : Code} {nt : Nat} {rs : List ResultVar} {ex : Nat} {st0 st : St} {v : Value} (hg : goodF P f = some (c, nt, rs)) (hW : W f = false) (hd : dform c = none)
    (h0 : (⟨List.replicate nt undef, [], 0⟩ : St) = st0) (he : acode P F k 0 c st0 = some (ex, st)) (hx : Nat.ble ex 1 = true) (hr : aresults P st.h rs st.a = some v) (ht : (sweep [] 0 (v, st.h, st.n)).1 = v) :
    ∃ h n, afunc P F W k 0 f [] [] 0 = some (v, h, n) := by
  subst h0
  have h1 : arun P F k 0 f [] [] 0 = some (v, st.h, st.n) := by
    unfold arun
    rw [hg]
    dsimp only [Option.bind_some]
    rw [hd]
    show arun1 P F k 0 (c, nt, rs) [] [] 0 = _
    unfold arun1
    dsimp only
    rw [show ([] ++ List.replicate (nt - List.length ([] : List Value)) undef : List Value) = List.replicate nt undef from by simp, he]
    dsimp only [Option.bind_some]
    rw [hx, hr]
    rfl
  have h2 : afunc P F W k 0 f [] [] 0 = some (sweep [] 0 (v, st.h, st.n)) := by
    unfold afunc
    rw [hW, h1]
    rfl
  rw [h2]
  generalize sweep [] 0 (v, st.h, st.n) = r at ht
  obtain ⟨x, y, z⟩ := r
  have ht' : x = v := ht
  exact ⟨y, z, by rw [ht']⟩
end
end Go.Proofs.Ytcpkdjikembpnaa.Ce
namespace Go.Proofs.Ytcpkdjikembpnaa.Ce
open Go.RowKit
section
variable {P : Program} {F : CallE}
theorem tab_both2 {l : List (FuncId × Value)} (hl : ∀ x ∈ l, flatT x.2 = true ∧ ∃ F0 h0 n0, SoundF P F0 ∧ F0 0 x.1 [] [] 0 = some (x.2, h0, n0)) (hF : SoundF P F) (hF2 : StatF F) : SoundF P (tab F l) ∧ StatF (tab F l) := by
  constructor
  · intro cl g ar h n v h' n' he hg hcl φ w S cargs hv m
    cases ar with
    | cons a ar => exact hF cl g (a :: ar) h n v h' n' he hg hcl φ w S cargs hv m
    | nil =>
      change (Option.rec (F cl g [] h n) (fun v => some (v, h, n)) (tabGet l g) : Option (Value × Hp × Nat)) = _ at he
      cases hb : tabGet l g with
      | none => rw [hb] at he; exact hF cl g [] h n v h' n' he hg hcl φ w S cargs hv m
      | some u =>
        rw [hb] at he
        injection he with he
        injection he with e1 he
        injection he with e2 e3
        subst e1; subst e2; subst e3
        obtain ⟨hfl, F0, h0, n0, hF0, hr⟩ := hl _ (tabGet_some hb)
        have hca : cargs = [] := by
          cases cargs with
          | nil => rfl
          | cons _ _ => exact hv.elim
        subst hca
        refine Calls.mono (hF0 0 g [] [] 0 _ h0 n0 hr hg (Nat.le_refl _) (fun _ => none) w w.heap.size [] trivial ⟨fun _ _ => rfl, fun id g c hp => (by cases hp), fun id id' g c c' _ hp => (by cases hp), fun id _ => (by unfold Hp.get; rw [lget_eq]; simp), Nat.le_refl _⟩) fun e w' hh => ?_
        obtain ⟨v', φ', rfl, h1, f, m0⟩ := hh
        obtain rfl := flatT_eq hfl h1
        have hold : ∀ g, g < w.heap.size → w'.heap[g]? = w.heap[g]? := fun g hg => f.fr g hg fun id c h2 => by omega
        have fr : Fr φ φ h h n n (fun id => cl ≤ id) w w' := ⟨fun _ _ => rfl, fun g hg _ => hold g hg, fun _ _ _ => rfl, fun id g c h1 h2 => by omega, fun id id' g c c' h1 h2 => by omega, fun _ _ hd => hd, fun _ _ _ => rfl, Nat.le_refl _, f.sz, f.os, f.tape, f.output⟩
        refine ⟨_, φ, rfl, flatT_refl hfl, fr, m.step fr m.hb fun id g c _ hp => ?_⟩
        obtain ⟨o1, o2, o3⟩ := m.obj id g c hp
        exact ⟨o1.mono (le_.refl _) (hold g o3), o2, Nat.lt_of_lt_of_le o3 f.sz⟩
  · intro cl g ar h n v h' n' he hcl hb
    cases ar with
    | cons a ar => exact hF2 cl g (a :: ar) h n v h' n' he hcl hb
    | nil =>
      change (Option.rec (F cl g [] h n) (fun v => some (v, h, n)) (tabGet l g) : Option (Value × Hp × Nat)) = _ at he
      cases hb' : tabGet l g with
      | none => rw [hb'] at he; exact hF2 cl g [] h n v h' n' he hcl hb
      | some u =>
        rw [hb'] at he
        injection he with he
        injection he with e1 he
        injection he with e2 e3
        subst e1; subst e2; subst e3
        exact Stat.same hb
variable {cl : Nat} {g : FuncId} {a : Value} {ar : List Value} {h : Hp} {n k d : Nat} {W : FuncId → Bool} {Φ : Value → Hp → Nat → Prop} {l : List (FuncId × Value)}
theorem Sp.tab (hs : Sp P F cl g (a :: ar) h n Φ) : Sp P (Ce.tab F l) cl g (a :: ar) h n Φ := hs
theorem Sp.known {v : Value} (hg : (goodF P g).isSome = true) (ht : tabGet l g = some v) : Sp P (Ce.tab F l) cl g [] h n fun v' h' n' => v' = v ∧ h' = h ∧ n' = n := by
  refine ⟨hg, v, h, n, ?_, rfl, rfl, rfl⟩
  show (Option.rec (F cl g [] h n) (fun v => some (v, h, n)) (tabGet l g) : Option (Value × Hp × Nat)) = _
  rw [ht]
theorem calls_tabA (hm : P.follows .mixedOrders = true) {l : List (FuncId × Value)} (hl : ∀ x ∈ l, flatT x.2 = true ∧ ∃ (W0 : FuncId → Bool) (k0 d0 : Nat) (h0 : Hp) (n0 : Nat), acall P W0 k0 d0 0 x.1 [] [] 0 = some (x.2, h0, n0)) {args vs : List Value} {w : World} (ha : args.map (visV w.heap.size) = vs)
    (hs : Sp P (afunc P (Ce.tab (acall P W k d) l) W k) w.heap.size g vs (absW w) w.heap.size fun v _ _ => v = .bool true) : Calls P g ⟨args⟩ w fun e w' => e = .returned (.bool true) ∧ Below w.heap.size w w' := by
  subst ha
  obtain ⟨hg, v, h', n', hr, rfl⟩ := hs
  have both := acall_both (P := P) hm W k d
  have bt := tab_both2 (l := l) (fun x hx => by
    obtain ⟨h1, W0, k0, d0, h0, n0, h2⟩ := hl x hx
    exact ⟨h1, _, h0, n0, (acall_both (P := P) hm W0 k0 d0).1, h2⟩) both.1 both.2
  refine Calls.mono (afunc_sound hm bt.1 bt.2 W k w.heap.size g _ _ _ _ h' n' hr (fun h0 => by rw [h0] at hg; cases hg) (Nat.le_refl _) (here w.heap.size) w 0 args (VL.visV _ _) (absW_mem P w)) fun e w' hh => ?_
  obtain ⟨v', φ', rfl, h1, f, m⟩ := hh
  obtain rfl := h1.bool
  exact ⟨rfl, f.os, f.tape, f.output, f.sz, fun g hg => f.fr g hg fun id c h1 h2 => by omega⟩
end
end Go.Proofs.Ytcpkdjikembpnaa.Ce
namespace Go.Proofs.Ytcpkdjikembpnaa.Ce
open Go.RowKit
noncomputable def tb15 : List (FuncId × Value) := [(25, .bool true)]
theorem alive15 (F : CallE) (cl : Nat) (h : Hp) (n : Nat) : Sp Try.prog (tab F tb15) cl 25 [] h n fun v h' n' => v = .bool true ∧ h = h' ∧ n = n' :=
  (Sp.known (by kernel_rfl) rfl).mono fun _ _ _ hp => ⟨hp.1, hp.2.1.symm, hp.2.2.symm⟩
end Go.Proofs.Ytcpkdjikembpnaa.Ce
namespace Go.Proofs.Ytcpkdjikembpnaa.Ce
open Go.RowKit
theorem sp_fixe {P : Program} {F : CallE} {cl n : Nat} {g : FuncId} {ar : List Value} {h : Hp} {Φ : Value → Hp → Nat → Prop} (hs : Sp P F cl g ar h n Φ) : ∃ v h' n', Φ v h' n' ∧ Sp P F cl g ar h n fun v2 h2 n2 => v2 = v ∧ h2 = h' ∧ n2 = n' := by
  obtain ⟨hg, v, h', n', hr, hp⟩ := hs
  exact ⟨v, h', n', hp, hg, v, h', n', hr, rfl, rfl, rfl⟩
variable (k d cl : Nat) (h : Hp) (n : Nat)
theorem lve_out (TA A OA : Option Addr) (T : List Tp) (xs os : List UInt8) (tc c oc : Nat) (b a t : Int) (hm : xs.length ≤ 9223372036854775807) (ho : os.length ≤ 9223372036854775807) (B4 : Bool) (hout : B4 = true ∨ greatB xs.length = true ∨ isB b xs.length = false ∨ 10000 < xs.length ∨ 40 < os.length)
    (hT : TabH h n TA T)
    
    (hS1 : Sp Try.prog (tab (acall Try.prog WW k (d + 3100)) tb15) n 9 [.slice TA T.length tc] (h.set n (.row 29 false [.int .u64 b, .slice A xs.length c])) (n + 1) fun v2 h2 n2 => v2 = .bool B4 ∧ (h.set n (.row 29 false [.int .u64 b, .slice A xs.length c])) = h2 ∧ n + 1 = n2) :
    Sp Try.prog (afunc Try.prog (tab (acall Try.prog WW k (d + 3100)) tb15) WW k) cl 6 [.slice TA T.length tc, .agg ⟨[.int .u64 b, .slice A xs.length c]⟩, .int .u64 a, .int .i64 t, .slice OA os.length oc] h n fun v h' n' => v = .bool true := by
  have hal2 := fun h6 n6 => alive15 (acall Try.prog WW k (d + 3100)) n h6 n6
  have qg := fun h6 n6 => Sp.tab (l := tb15) ((great_ev k (d + 3099) n h6 n6 b A xs.length c).mono (Φ' := fun v2 h2 n2 => v2 = .bool (greatB xs.length) ∧ h6 = h2 ∧ n6 = n2) fun _ _ _ hp => ⟨hp.1, hp.2.1.symm, hp.2.2.symm⟩)
  have qi := fun h6 n6 => Sp.tab (l := tb15) ((ris_ev k (d + 3099) n h6 n6 b A xs.length c (by omega)).mono (Φ' := fun v2 h2 n2 => v2 = .bool (isB b xs.length) ∧ h6 = h2 ∧ n6 = n2) fun _ _ _ hp => ⟨hp.1, hp.2.1.symm, hp.2.2.symm⟩)
  obtain ⟨G, hG⟩ : ∃ G, greatB xs.length = G := ⟨_, rfl⟩
  obtain ⟨I, hI⟩ : ∃ I, isB b xs.length = I := ⟨_, rfl⟩
  simp only [hG] at hout qg
  simp only [hI] at hout qi
  cases B4 <;> cases G <;> cases I
  all_goals
    try simp only [Bool.false_eq_true, reduceCtorEq, false_or] at hout
    refine enterS Try.func6 (by kernel_rfl) rfl (by kernel_rfl) rfl rfl rfl ?_
    (repeat' first | refine zcd ?_ | intro K' hK | (with_reducible refine zn hK ?_; clear hK) | ((with_reducible apply o_callF (g := 25) w_none); (case ha => exact ez0); (case hs => (exact hal2 _ _)); (case' hk => rintro _ h' n' ⟨rfl, rfl, rfl⟩)) | ((with_reducible apply o_callF (g := 9) w_none); (case ha => exact ez0); (case hs => (exact hS1)); (case' hk => rintro _ h' n' ⟨rfl, rfl, rfl⟩)) | ((with_reducible apply o_callF (g := 16) w_none); (case ha => exact ez0); (case hs => (exact qg _ _)); (case' hk => rintro _ h' n' ⟨rfl, rfl, rfl⟩)) | ((with_reducible apply o_callF (g := 29) w_none); (case ha => exact ez0); (case hs => (exact qi _ _)); (case' hk => rintro _ h' n' ⟨rfl, rfl, rfl⟩)) | ((with_reducible first | apply zo1 | apply zo2 | apply o_guard rfl | apply x_cond | apply k_e1 rfl | apply k_e2 rfl | apply k_e0 rfl | apply k_e3 rfl | apply k_e4 rfl); (case he => exact ez0); (try case hok => exact ezO); all_goals try (intro hb; (try simp only [hbs, reduceCtorEq] at hb); try exact ezX)) | ((with_reducible apply o_undef rfl); (case hb => exact ez0)))
    all_goals exact sw_flat rfl rfl rfl
theorem lve_in (hk : 30000 ≤ k) (TA A OA : Option Addr) (T : List Tp) (xs os : List UInt8) (tc c oc : Nat) (b a t : Int) (ha0 : 0 ≤ a) (ha1 : a < 18446744073709551616) (hT : TabH h n TA T) (hg4 : T.length ≤ 40 ∧ ∀ t ∈ T, t.fs.length ≤ 20) (hr : RdH h n A (bv xs)) (hc : A = none → c = 0) (hro : RdH h n OA (bv os)) (hoc : OA = none → oc = 0)
    (hgr : greatB xs.length = false) (his : isB b xs.length = true) (hxl : xs.length ≤ 10000) (hol : os.length ≤ 40)
    
    (hS1 : Sp Try.prog (tab (acall Try.prog WW k (d + 3100)) tb15) n 9 [.slice TA T.length tc] (h.set n (.row 29 false [.int .u64 b, .slice A xs.length c])) (n + 1) fun v2 h2 n2 => v2 = .bool false ∧ (h.set n (.row 29 false [.int .u64 b, .slice A xs.length c])) = h2 ∧ n + 1 = n2) :
    Sp Try.prog (afunc Try.prog (tab (acall Try.prog WW k (d + 3100)) tb15) WW k) cl 6 [.slice TA T.length tc, .agg ⟨[.int .u64 b, .slice A xs.length c]⟩, .int .u64 a, .int .i64 t, .slice OA os.length oc] h n fun v h' n' => v = .bool true := by
  have hal2 := fun h6 n6 => alive15 (acall Try.prog WW k (d + 3100)) n h6 n6
  have qg := fun h6 n6 => Sp.tab (l := tb15) ((great_ev k (d + 3099) n h6 n6 b A xs.length c).mono (Φ' := fun v2 h2 n2 => v2 = .bool (greatB xs.length) ∧ h6 = h2 ∧ n6 = n2) fun _ _ _ hp => ⟨hp.1, hp.2.1.symm, hp.2.2.symm⟩)
  have qi := fun h6 n6 => Sp.tab (l := tb15) ((ris_ev k (d + 3099) n h6 n6 b A xs.length c (by omega)).mono (Φ' := fun v2 h2 n2 => v2 = .bool (isB b xs.length) ∧ h6 = h2 ∧ n6 = n2) fun _ _ _ hp => ⟨hp.1, hp.2.1.symm, hp.2.2.symm⟩)
  rw [hgr] at qg
  rw [his] at qi
  have hb : b = 65536 ∧ xs.length % 8 = 0 ∧ xs.length ≤ 16384 := by unfold isB at his; simpa using his
  have hST : ∀ t ∈ T, t.fs.length ≤ 20000 := fun t ht => by have := hg4.2 t ht; omega
  have hmm : T.length ≤ 9223372036854775807 := by omega
  have qL := fun (LA : Option Addr) (L : List Rg) (lc : Nat) (hl : L.length ≤ 100) (cl : Nat) (h6 : Hp) (n6 : Nat) (hT6 : TabH h6 n6 TA T) (hR6 : RgH h6 n6 LA L) => Sp.tab (l := tb15) (vload_ev k d cl h6 n6 hk TA LA T L tc lc hT6 hST hmm hR6 hl a t 3 ha0 ha1)
  obtain ⟨G, hG⟩ : ∃ G : Rg, G = ⟨b, xs, A, c⟩ := ⟨_, rfl⟩
  have qL1 := qL
  obtain ⟨res, hres⟩ : ∃ res, LoadR T [G] a t 3 = res := ⟨_, rfl⟩
  have q1 : ∀ (id : Nat) (h6 : Hp) (n6 : Nat), TabH h6 n6 TA T → RgH h6 n6 (some ⟨id, 0, none⟩) [G] → Sp Try.prog (tab (acall Try.prog WW k (d + 3100)) tb15) n 11 [.slice TA T.length tc, .slice (some ⟨id, 0, none⟩) 1 1, .int .u64 a, .int .i64 t, .int .i64 3] h6 n6 (LdV res h6 n6) := fun id h6 n6 hT6 hR6 => by
    have := qL (some ⟨id, 0, none⟩) [G] 1 (by simp) n h6 n6 hT6 hR6
    rw [hres] at this
    exact this
  have hrg : ∀ (h6 : Hp) (n6 id : Nat), (∀ q, q < n → h6.get q = h.get q) → n ≤ n6 → rowOf h6 id = some (29, false, [.int .u64 b, .slice A xs.length c]) → id < n6 → RgH h6 n6 (some ⟨id, 0, none⟩) [G] := fun h6 n6 id hk6 hn6 hr6 hid => by
    subst hG
    refine ⟨RdH.ofRow hr6 hid, fun g hg => ?_, fun g hg => ?_, fun g hg => ?_, fun g hg => ?_⟩
    all_goals obtain rfl := List.mem_singleton.1 hg
    · exact (hr.keep (Nat.le_refl _) hk6).more hn6
    · exact hc
    · dsimp only; omega
    · dsimp only; omega
  cases res with
  | error e =>
    have q2 := fun (id : Nat) (h6 : Hp) (n6 : Nat) (hT6 : TabH h6 n6 TA T) (hR6 : RgH h6 n6 (some ⟨id, 0, none⟩) [G]) => (q1 id h6 n6 hT6 hR6).mono (Φ' := fun v h' n' => v = .tuple ⟨[.agg ⟨vcell 0 0 [] none 0 0 false⟩, .int .i64 e]⟩ ∧ e ≠ 0 ∧ h6 = h' ∧ n6 = n') fun _ _ _ hp => ⟨hp.1, hp.2.1, hp.2.2.1.symm, hp.2.2.2.symm⟩
    refine enterS Try.func6 (by kernel_rfl) rfl (by kernel_rfl) rfl rfl rfl ?_
    (repeat' first | refine zcd ?_ | intro K' hK | (with_reducible refine zn hK ?_; clear hK) | ((with_reducible apply o_callF (g := 25) w_none); (case ha => exact ez0); (case hs => (exact hal2 _ _)); (case' hk => rintro _ h' n' ⟨rfl, rfl, rfl⟩)) | ((with_reducible apply o_callF (g := 9) w_none); (case ha => exact ez0); (case hs => (exact hS1)); (case' hk => rintro _ h' n' ⟨rfl, rfl, rfl⟩)) | ((with_reducible apply o_callF (g := 16) w_none); (case ha => exact ez0); (case hs => (exact qg _ _)); (case' hk => rintro _ h' n' ⟨rfl, rfl, rfl⟩)) | ((with_reducible apply o_callF (g := 29) w_none); (case ha => exact ez0); (case hs => (exact qi _ _)); (case' hk => rintro _ h' n' ⟨rfl, rfl, rfl⟩)) | ((with_reducible apply o_callF (g := 11) w_none); (case ha => exact ez0); (case hs => ((with_reducible apply q2); (all_goals first | exact ezT hT | exact hrg _ _ _ ezN (by omega) ez0 (by omega)))); (case' hk => rintro _ h' n' ⟨rfl, he0, rfl, rfl⟩)) | ((with_reducible first | apply zo1 | apply zo2 | apply o_guard rfl | apply x_cond | apply k_e1 rfl | apply k_e2 rfl | apply k_e0 rfl | apply k_e3 rfl | apply k_e4 rfl); (case he => exact ez0); (try case hok => exact ezO); all_goals try (intro hb; (try simp only [hbs, reduceCtorEq] at hb); try exact ezX)) | ((with_reducible apply o_undef rfl); (case hb => exact ez0)))
    all_goals exact sw_flat rfl rfl rfl
  | ok x =>
    have bX : Bd 1001 x := by
      have := LoadR_bd (T := T) (L := [G]) (a := a) (t := t) (dp := 3)
      rw [hres] at this
      exact this
    have uni : ∀ {h h' : Hp} {n n' : Nat} {v : Value}, LdV (.ok x) h n v h' n' → LdU x 0 h n v h' n' := fun hh => hh.uni
    have q2 := fun (id : Nat) (h6 : Hp) (n6 : Nat) (hT6 : TabH h6 n6 TA T) (hR6 : RgH h6 n6 (some ⟨id, 0, none⟩) [G]) => (q1 id h6 n6 hT6 hR6).mono fun _ _ _ hp => uni hp
    refine enterS Try.func6 (by kernel_rfl) rfl (by kernel_rfl) rfl rfl rfl ?_
    (repeat' first | refine zcd ?_ | intro K' hK | (with_reducible refine zn hK ?_; clear hK) | ((with_reducible apply o_callF (g := 25) w_none); (case ha => exact ez0); (case hs => (exact hal2 _ _)); (case' hk => rintro _ h' n' ⟨rfl, rfl, rfl⟩)) | ((with_reducible apply o_callF (g := 9) w_none); (case ha => exact ez0); (case hs => (exact hS1)); (case' hk => rintro _ h' n' ⟨rfl, rfl, rfl⟩)) | ((with_reducible apply o_callF (g := 16) w_none); (case ha => exact ez0); (case hs => (exact qg _ _)); (case' hk => rintro _ h' n' ⟨rfl, rfl, rfl⟩)) | ((with_reducible apply o_callF (g := 29) w_none); (case ha => exact ez0); (case hs => (exact qi _ _)); (case' hk => rintro _ h' n' ⟨rfl, rfl, rfl⟩)) | ((with_reducible apply o_callF (g := 11) w_none); (case ha => exact ez0); (case hs => ((with_reducible apply q2); (all_goals first | exact ezT hT | exact hrg _ _ _ ezN (by omega) ez0 (by omega)))); (case' hk => rintro _ h' n' ⟨A1, cc1, rfl, v1, hn1, hk1⟩)) | ((with_reducible first | apply zo1 | apply zo2 | apply o_guard rfl | apply x_cond | apply k_e1 rfl | apply k_e2 rfl | apply k_e0 rfl | apply k_e3 rfl | apply k_e4 rfl); (case he => exact ez0); (try case hok => exact ezO); all_goals try (intro hb; (try simp only [hbs, reduceCtorEq] at hb); try exact ezX)) | ((with_reducible apply o_undef rfl); (case hb => exact ez0)))
    obtain ⟨h1, rfl⟩ : ∃ y, y = h' := ⟨_, rfl⟩
    obtain ⟨n1, rfl⟩ : ∃ y, y = n' := ⟨_, rfl⟩
    have b1 : ∀ q, q < n → h1.get q = h.get q := fun q hq => by rw [hk1 _ (by omega)]; (repeat rw [Hp.get_ne _ _ (by omega)])
    have rG : rowOf h1 n = some (29, false, [.int .u64 b, .slice A xs.length c]) := by rw [rowOf_keep (hk1 _ (by omega))]; exact ez0
    clear hk1 q1 q2 qg qi hS1 hal2
    have fG := cellsAt_row (off := 0) (k := 2) rG
    have hr1 : RdH h1 n A (bv xs) := hr.keep (Nat.le_refl _) b1
    have hro1 : RdH h1 n OA (bv os) := hro.keep (Nat.le_refl _) b1
    have qt := fun (h6 : Hp) (n6 : Nat) (hr6 : RdH h6 n6 A (bv xs)) => Sp.tab (l := tb15) ((twin_ev k (d + 3099) n h6 n6 b A xs c hr6 hc (by omega)).mono (Φ' := fun v h' n' => v = .agg ⟨[.int .u64 b, .slice (some ⟨n6, 0, none⟩) xs.length xs.length]⟩ ∧ h6.set n6 (.row 5 false (bv xs)) = h' ∧ n6 + 1 = n') fun _ _ _ hp => ⟨hp.1, hp.2.1.symm, hp.2.2.symm⟩)
    have hT1 : TabH h1 n TA T := hT.keep (Nat.le_refl _) b1
    have hyl : (xs ++ os).length = xs.length + os.length := List.length_append
    obtain ⟨ys, hys⟩ : ∃ ys, xs ++ os = ys := ⟨_, rfl⟩
    have hby : bv xs ++ bv os = bv ys := by rw [← hys]; unfold bv; rw [List.map_append]
    have htk : (bv xs).take (xs.length * 1) = bv xs := List.take_of_length_le (by rw [bv_length]; omega)
    have htk2 : (bv xs).take xs.length = bv xs := List.take_of_length_le (by rw [bv_length]; omega)
    rw [hys] at hyl
    have hrm : ∀ (h6 : Hp) (n6 id m : Nat), (∀ q, q < n → h6.get q = h.get q) → n ≤ n6 → rowOf h6 id = some (29, false, [.int .u64 b, .slice (some ⟨m, 0, none⟩) (xs.length + os.length) (xs.length + os.length), .int .u64 16777216, .slice OA os.length oc]) → id < n6 → RdH h6 n6 (some ⟨m, 0, none⟩) (bv ys) → RgH h6 n6 (some ⟨id, 0, none⟩) [⟨b, ys, some ⟨m, 0, none⟩, ys.length⟩, ⟨16777216, os, OA, oc⟩] := fun h6 n6 id m hk6 hn6 hr6 hid hm6 => by
      rw [← hyl] at hr6
      refine ⟨RdH.ofRow hr6 hid, fun g hg => ?_, fun g hg => ?_, fun g hg => ?_, fun g hg => ?_⟩
      all_goals rcases List.mem_cons.1 hg with rfl | hg
      all_goals try obtain rfl := List.mem_singleton.1 hg
      · exact hm6
      · exact (hro.keep (Nat.le_refl _) hk6).more hn6
      · exact fun e => by cases e
      · exact hoc
      · dsimp only; omega
      · dsimp only; omega
      · dsimp only; omega
      · dsimp only; omega
    have hx2 : ∀ m, LoadR T [⟨b, ys, some ⟨m, 0, none⟩, ys.length⟩, ⟨16777216, os, OA, oc⟩] a t 3 = .ok x := fun m => LoadR_sub (lst_two (by unfold chkG chkR basedB; dsimp only; rw [if_pos (by simp; omega)]) (by unfold chkG chkR basedB; dsimp only; rw [if_pos (by simp; omega)]) (fun ho => by unfold ovl at ho; dsimp only at ho; omega)) (sub_more (by rw [hG]) (by rw [hG]; exact hys.symm)) hres
    have hx3 : LoadR T [⟨16777216, os, OA, oc⟩, G] a t 3 = .ok x := LoadR_sub (lst_two (by unfold chkG chkR basedB; dsimp only; rw [if_pos (by simp; omega)]) (by rw [hG]; unfold chkG chkR basedB; dsimp only; rw [if_pos (by simp; omega)]) (fun ho => by rw [hG] at ho; unfold ovl at ho; dsimp only at ho; omega)) (sub_far (by rw [hG]; dsimp only; omega)) hres
    have q3 : ∀ (id m : Nat) (h6 : Hp) (n6 : Nat) (hT6 : TabH h6 n6 TA T) (hR6 : RgH h6 n6 (some ⟨id, 0, none⟩) [⟨b, ys, some ⟨m, 0, none⟩, ys.length⟩, ⟨16777216, os, OA, oc⟩]), Sp Try.prog (tab (acall Try.prog WW k (d + 3100)) tb15) n 11 [.slice TA T.length tc, .slice (some ⟨id, 0, none⟩) 2 2, .int .u64 a, .int .i64 t, .int .i64 3] h6 n6 (LdU x 0 h6 n6) := fun id m h6 n6 hT6 hR6 => (qL (some ⟨id, 0, none⟩) _ 2 (by simp) n h6 n6 hT6 hR6).mono (Φ' := LdU x 0 h6 n6) fun _ _ _ hp => by rw [hx2 m] at hp; exact uni hp
    (repeat' first | refine zcd ?_ | intro K' hK | (with_reducible refine zn hK ?_; clear hK) | ((with_reducible apply o_callF (g := 18) w_none); (case ha => exact ez0); (case hs => ((with_reducible apply qt); exact ezD hr1)); (case' hk => rintro _ h' n' ⟨rfl, rfl, rfl⟩)) | ((with_reducible apply o_apR (t := 27) apT27 w_none); (case hs => exact ez0); (case hy => exact ez0); (case hsrc => exact src_rd (B := n) (vs := bv os) (ezD hro1) hoc (by rw [bv_length]; omega) (by omega)); (case hr => exact ez0); (case hc => exact bv_cok _); (case hm => omega); (case hli => omega); (case hln => omega); (case hcs => rw [bv_length]; omega)) | ((with_reducible apply o_callF (g := 11) w_none); (case ha => exact ez0); (case hs => ((with_reducible apply q3); (all_goals first | exact ezT hT1 | (refine hrm _ _ _ _ ?_ (by omega) ez0 (by omega) (RdH.ofRow (ez3 htk htk2 hby) (by omega)); exact ezB b1)))); (case' hk => rintro _ h' n' ⟨A2, cc2, rfl, v2, hn2, hk2⟩)) | ((with_reducible first | apply zo1 | apply zo2 | apply o_guard rfl | apply x_cond | apply k_e1 rfl | apply k_e2 rfl | apply k_e0 rfl | apply k_e3 rfl | apply k_e4 rfl); (case he => exact ez1 fG); (try case hok => exact ezO); all_goals try (intro hb; (try simp only [hbs, reduceCtorEq] at hb); try exact ezX)) | ((with_reducible apply o_undef rfl); (case hb => exact ez0)))
    obtain ⟨h2, rfl⟩ : ∃ y, y = h' := ⟨_, rfl⟩
    obtain ⟨n2, rfl⟩ : ∃ y, y = n' := ⟨_, rfl⟩
    have b2 : ∀ q, q < n → h2.get q = h.get q := fun q hq => by rw [hk2 _ (by omega)]; (repeat rw [Hp.get_ne _ _ (by omega)]); exact b1 q hq
    have rG2 : rowOf h2 n = some (29, false, [.int .u64 b, .slice A xs.length c]) := by rw [rowOf_keep (hk2 _ (by omega))]; (repeat rw [rowOf_ne _ _ (by omega)]); exact rG
    have rF2 : rowOf h2 (n1 + 1 + 1 + 1 + 1) = some (29, false, [.int .u64 16777216, .slice OA os.length oc]) := by rw [rowOf_keep (hk2 _ (by omega))]; exact ez0
    have r12 : rowOf h2 n1 = some (32, false, vcell x.kd x.i x.s A1 x.l.length cc1 x.c) := by rw [rowOf_keep (hk2 _ (by omega))]; exact ez0
    have w1 := v1.keep (h' := h2) (B' := n2) (by omega) fun q hq => by rw [hk2 _ (by omega)]; (repeat rw [Hp.get_ne _ _ (by omega)])
    clear hk2 q3 hrm hx2 qt fG rG
    have fG2 := cellsAt_row (off := 0) (k := 2) rG2
    have fF2 := cellsAt_row (off := 0) (k := 2) rF2
    have hT2 : TabH h2 n TA T := hT.keep (Nat.le_refl _) b2
    have hrf : ∀ (h6 : Hp) (n6 id : Nat), (∀ q, q < n → h6.get q = h.get q) → n ≤ n6 → rowOf h6 id = some (29, false, [.int .u64 16777216, .slice OA os.length oc, .int .u64 b, .slice A xs.length c]) → id < n6 → RgH h6 n6 (some ⟨id, 0, none⟩) [⟨16777216, os, OA, oc⟩, G] := fun h6 n6 id hk6 hn6 hr6 hid => by
      subst hG
      refine ⟨RdH.ofRow hr6 hid, fun g hg => ?_, fun g hg => ?_, fun g hg => ?_, fun g hg => ?_⟩
      all_goals rcases List.mem_cons.1 hg with rfl | hg
      all_goals try obtain rfl := List.mem_singleton.1 hg
      · exact (hro.keep (Nat.le_refl _) hk6).more hn6
      · exact (hr.keep (Nat.le_refl _) hk6).more hn6
      · exact hoc
      · exact hc
      · dsimp only; omega
      · dsimp only; omega
      · dsimp only; omega
      · dsimp only; omega
    have q4 : ∀ (id : Nat) (h6 : Hp) (n6 : Nat) (hT6 : TabH h6 n6 TA T) (hR6 : RgH h6 n6 (some ⟨id, 0, none⟩) [⟨16777216, os, OA, oc⟩, G]), Sp Try.prog (tab (acall Try.prog WW k (d + 3100)) tb15) n 11 [.slice TA T.length tc, .slice (some ⟨id, 0, none⟩) 2 2, .int .u64 a, .int .i64 t, .int .i64 3] h6 n6 (LdU x 0 h6 n6) := fun id h6 n6 hT6 hR6 => (qL (some ⟨id, 0, none⟩) _ 2 (by simp) n h6 n6 hT6 hR6).mono (Φ' := LdU x 0 h6 n6) fun _ _ _ hp => by rw [hx3] at hp; exact uni hp
    (repeat' first | refine zcd ?_ | intro K' hK | (with_reducible refine zn hK ?_; clear hK) | ((with_reducible apply o_callF (g := 11) w_none); (case ha => exact ez0); (case hs => ((with_reducible apply q4); (all_goals first | exact ezT hT2 | (refine hrf _ _ _ ?_ (by omega) ez0 (by omega); exact ezB b2)))); (case' hk => rintro _ h' n' ⟨A3, cc3, rfl, v3, hn3, hk3⟩)) | ((with_reducible first | apply zo1 | apply zo2 | apply o_guard rfl | apply x_cond | apply k_e1 rfl | apply k_e2 rfl | apply k_e0 rfl | apply k_e3 rfl | apply k_e4 rfl); (case he => exact ez2 fG2 fF2); (try case hok => exact ezO); all_goals try (intro hb; (try simp only [hbs, reduceCtorEq] at hb); try exact ezX)) | ((with_reducible apply o_undef rfl); (case hb => exact ez0)))
    obtain ⟨h3, rfl⟩ : ∃ y, y = h' := ⟨_, rfl⟩
    obtain ⟨n3, rfl⟩ : ∃ y, y = n' := ⟨_, rfl⟩
    have s12 : rowOf h3 n1 = some (32, false, vcell x.kd x.i x.s A1 x.l.length cc1 x.c) := by rw [rowOf_keep (hk3 _ (by omega))]; (repeat rw [rowOf_ne _ _ (by omega)]); exact r12
    have s16 : rowOf h3 n2 = some (32, false, vcell x.kd x.i x.s A2 x.l.length cc2 x.c) := by rw [rowOf_keep (hk3 _ (by omega))]; exact ez0
    have w1 := w1.keep (h' := h3) (B' := n3) (by omega) fun q hq => by rw [hk3 _ (by omega)]; (repeat rw [Hp.get_ne _ _ (by omega)])
    have w2 := v2.keep (h' := h3) (B' := n3) (by omega) fun q hq => by rw [hk3 _ (by omega)]; (repeat rw [Hp.get_ne _ _ (by omega)])
    have f12 := cellsAt_row (off := 0) (k := 5) s12
    have f16 := cellsAt_row (off := 0) (k := 5) s16
    have ps := fun (h6 : Hp) (n6 : Nat) (cs cs' : List Value) (va : VH h6 n6 x cs) (vb : VH h6 n6 x cs') => Sp.tab (l := tb15) ((psamev_ev k hk 1001 x x (d + 1098) n h6 n6 cs cs' bX va vb).mono (Φ' := fun v h' n' => v = .bool true ∧ h6 = h' ∧ n6 = n') fun _ _ _ hp => ⟨by rw [hp.1, sameV_t], hp.2.1.symm, hp.2.2.symm⟩)
    have rs := fun (h6 : Hp) (n6 : Nat) (cs cs' : List Value) (va : VH h6 n6 x cs) (vb : VH h6 n6 x cs') => Sp.tab (l := tb15) ((rsamev_ev k hk 1001 x x (d + 2099) n h6 n6 cs cs' bX va vb).mono (Φ' := fun v h' n' => v = .bool true ∧ h6 = h' ∧ n6 = n') fun _ _ _ hp => ⟨by rw [hp.1, sameV_t], hp.2.1.symm, hp.2.2.symm⟩)
    have u1 := fun (y : AObj) => (w1.set (id := n3) (Nat.le_refl _) y).more (B' := n3 + 1) (by omega)
    have u2 := fun (y : AObj) => (w2.set (id := n3) (Nat.le_refl _) y).more (B' := n3 + 1) (by omega)
    have u3 := fun (y : AObj) => (v3.set (id := n3) (Nat.le_refl _) y).more (B' := n3 + 1) (by omega)
    (repeat' first | refine zcd ?_ | intro K' hK | (with_reducible refine zn hK ?_; clear hK) | ((with_reducible apply o_callF (g := 24) w_none); (case ha => exact ez0); (case hs => ((with_reducible apply ps); (all_goals first | exact u1 _ | exact u2 _ | exact u3 _))); (case' hk => rintro _ h' n' ⟨rfl, rfl, rfl⟩)) | ((with_reducible apply o_callF (g := 15) w_none); (case ha => exact ez0); (case hs => ((with_reducible apply rs); (all_goals first | exact u1 _ | exact u2 _ | exact u3 _))); (case' hk => rintro _ h' n' ⟨rfl, rfl, rfl⟩)) | ((with_reducible first | apply zo1 | apply zo2 | apply o_guard rfl | apply x_cond | apply k_e1 rfl | apply k_e2 rfl | apply k_e0 rfl | apply k_e3 rfl | apply k_e4 rfl); (case he => exact ez2 f12 f16); (try case hok => exact ezO); all_goals try (intro hb; (try simp only [hbs, reduceCtorEq] at hb); try exact ezX)) | ((with_reducible apply o_undef rfl); (case hb => exact ez0)))
    all_goals exact sw_flat rfl rfl rfl
theorem valueElsewhere_ev (hk : 30000 ≤ k) (TA A OA : Option Addr) (T : List Tp) (xs os : List UInt8) (tc c oc : Nat) (b a t : Int) (hT : TabH h n TA T) (hm : T.length ≤ 9223372036854775807) (hS0 : ∀ t ∈ T, t.fs.length ≤ 9223372036854775807) (hr : RdH h n A (bv xs)) (hc : A = none → c = 0) (hxm : xs.length ≤ 9223372036854775807) (hro : RdH h n OA (bv os)) (hoc : OA = none → oc = 0) (hom : os.length ≤ 9223372036854775807) (ha0 : 0 ≤ a) (ha1 : a < 18446744073709551616)
     :
    Sp Try.prog (afunc Try.prog (tab (acall Try.prog WW k (d + 3100)) tb15) WW k) cl 6 [.slice TA T.length tc, .agg ⟨[.int .u64 b, .slice A xs.length c]⟩, .int .u64 a, .int .i64 t, .slice OA os.length oc] h n fun v h' n' => v = .bool true := by
  obtain ⟨v, h2, n2, ⟨B, rfl, hg, hh2, hn2⟩, hB⟩ := sp_fixe (tgreat_ev k (d + 3099) n (h.set n (.row 29 false [.int .u64 b, .slice A xs.length c])) (n + 1) hk TA T tc ((hT.set (Nat.le_refl _) _).more (by omega)) hm hS0)
  have hS1 : Sp Try.prog (tab (acall Try.prog WW k (d + 3100)) tb15) n 9 [.slice TA T.length tc] (h.set n (.row 29 false [.int .u64 b, .slice A xs.length c])) (n + 1) fun v2 h2 n2 => v2 = .bool B ∧ (h.set n (.row 29 false [.int .u64 b, .slice A xs.length c])) = h2 ∧ n + 1 = n2 := Sp.tab (l := tb15) (hB.mono fun _ _ _ hp => ⟨hp.1, by rw [hp.2.1, hh2], by rw [hp.2.2, hn2]⟩)
  by_cases hout : B = true ∨ greatB xs.length = true ∨ isB b xs.length = false ∨ 10000 < xs.length ∨ 40 < os.length
  · exact lve_out k d cl h n TA A OA T xs os tc c oc b a t hxm hom B hout hT hS1
  · have hB : B = false := by cases B <;> simp_all
    subst hB
    exact lve_in k d cl h n hk TA A OA T xs os tc c oc b a t ha0 ha1 hT (hg rfl) hr hc hro hoc (by cases hx : greatB xs.length <;> simp_all) (by cases hx : isB b xs.length <;> simp_all) (by omega) (by omega) hS1
end Go.Proofs.Ytcpkdjikembpnaa.Ce
