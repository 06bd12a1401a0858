/- Parts of the proof of TopCode: Cv. No condition of its own. -/
import Derived.Tactics
import Derived.Test.YtkngdfbibffdcaaTad
set_option linter.unusedVariables false
set_option linter.unusedSimpArgs false
set_option maxRecDepth 100000
set_option maxHeartbeats 4000000
namespace Go.Proofs.Ytkngdfbibffdcaa.Ce
open Go.RowKit
section
variable {P : Program} {F : CallE} {S : Nat}
theorem aopS_inv {lim cl : Nat} {ops : List Oper} {o : Oper} {st st' : St} {fp : Fp} (he : aopS P F lim cl ops o st = some (st', fp)) :
    (wants ops o st.a = some false ∧ st' = ⟨put st.a o.dst undef, st.h, st.n⟩ ∧ fp = ⟨[], [], false, st.n, st.n⟩) ∨
    (wants ops o st.a = some true ∧ ∃ e, aop o.op P F lim cl (lev st.a) st.h st.n = some e ∧ (∀ id ∈ e.wr, lim ≤ id) ∧ (memOp o.op = true ∨ e.rd = [] ∧ e.wr = []) ∧ st' = ⟨put st.a o.dst e.v, e.h, e.n⟩ ∧ fp = ⟨e.rd, e.wr, isCall o.op, st.n, e.n⟩) := by
  unfold aopS at he
  cases hw : wants ops o st.a with
  | none => rw [hw] at he; cases he
  | some b =>
    rw [hw] at he
    cases b with
    | false =>
      injection he with he
      injection he with h1 h2
      exact .inl ⟨rfl, h1.symm, h2.symm⟩
    | true =>
      change (aop o.op P F lim cl (lev st.a) st.h st.n).bind _ = some (st', fp) at he
      cases ha : aop o.op P F lim cl (lev st.a) st.h st.n with
      | none => rw [ha] at he; cases he
      | some e =>
        rw [ha, Option.bind_some] at he
        cases hl : (e.wr.all (Nat.ble lim) && (memOp o.op || (e.rd.isEmpty && e.wr.isEmpty))) with
        | false => rw [hl] at he; cases he
        | true =>
          rw [hl] at he
          simp only [fV_eq, fN_eq] at he
          injection he with he
          injection he with h1 h2
          simp only [Bool.and_eq_true, Bool.or_eq_true, List.isEmpty_iff] at hl
          refine .inr ⟨rfl, e, rfl, fun id hid => ?_, hl.2, h1.symm, h2.symm⟩
          have := List.all_eq_true.1 hl.1 id hid
          rwa [Nat.ble_eq] at this
theorem put_defers (a : Act) (d : Option Tmp) (v : Value) : (a.put d v).defers = a.defers := by cases d <;> rfl
theorem aops_okL (hF : SoundF P F) {lim : Nat} {ops : Array Oper} {more : List Oper} {Q : Exit → Act → World → Prop} : ∀ (l : List Oper) {st st' : St} {φ : Mp} {a : Act} {w : World},
    aops P F lim lim ops.toList l st = some st' → lim ≤ st.n → TR φ st.a a.tmps → MemR P φ st.h st.n w S →
    (∀ a' w' φ', a'.defers = a.defers → TR φ' st'.a a'.tmps → Fr φ φ' st.h st'.h st.n st'.n (fun id => lim ≤ id) w w' → MemR P φ' st'.h st'.n w' S → wpList P ops Q more a' w') → wpList P ops Q (l ++ more) a w := by
  intro l
  induction l with
  | nil =>
    intro st st' φ a w he hl ht m hQ
    injection he with he
    subst he
    exact hQ a w φ rfl ht (Fr.refl _ _ _ _) m
  | cons o rest ih =>
    intro st st' φ a w he hl ht m hQ
    change (aopS P F lim lim ops.toList o st).bind (fun r => aops P F lim lim ops.toList rest r.1) = some st' at he
    cases hs : aopS P F lim lim ops.toList o st with
    | none => rw [hs] at he; cases he
    | some r =>
      obtain ⟨st1, fp⟩ := r
      rw [hs, Option.bind_some] at he
      show wpList P ops Q (o :: (rest ++ more)) a w
      unfold wpList
      rcases aopS_inv hs with ⟨hw, rfl, rfl⟩ | ⟨hw, e, hop, hwr, -, rfl, rfl⟩
      · rw [ht.wants hw]
        simp only [Bool.false_eq_true, if_false]
        exact ih he hl (ht.put o.dst VC.undef_) m fun a' w' φ' h1 => hQ a' w' φ' (h1.trans (put_defers _ _ _))
      · rw [ht.wants hw]
        simp only [if_true]
        refine .inl (aop_wp hF hop hl (fun x _ => ht.lev x) m.tou (fun _ => m) m.hb m.fn m.hS fun v' w1 φ1 hv p hb1 => ?_)
        have f1 := p.toFr.weaken (Wr' := fun id => lim ≤ id) fun id _ h2 => h2.elim (hwr id) fun h3 => h3.2
        have m1 := m.po p hb1
        refine ih he (Nat.le_trans hl p.nle) ((ht.mono (f1.le m.fn)).put o.dst hv) m1 fun a' w' φ' h1 h2 h3 h4 => ?_
        exact hQ a' w' φ' (h1.trans (put_defers _ _ _)) h2 (f1.trans h3 (fun _ _ h => h) m1) h4
theorem aops_ok (hF : SoundF P F) {lim : Nat} {ops : Array Oper} {Q : Exit → Act → World → Prop} (l : List Oper) {st st' : St} {φ : Mp} {a : Act} {w : World}
    (he : aops P F lim lim ops.toList l st = some st') (hl : lim ≤ st.n) (ht : TR φ st.a a.tmps) (m : MemR P φ st.h st.n w S)
    (hQ : ∀ a' w' φ', a'.defers = a.defers → TR φ' st'.a a'.tmps → Fr φ φ' st.h st'.h st.n st'.n (fun id => lim ≤ id) w w' → MemR P φ' st'.h st'.n w' S → Q .normal a' w') : wpList P ops Q l a w := by
  have := aops_okL (more := []) (Q := Q) hF l he hl ht m fun a' w' φ' h1 h2 h3 h4 => hQ a' w' φ' h1 h2 h3 h4
  rwa [List.append_nil] at this
theorem region_seq (hF : SoundF P F) {lim id : Nat} {ops : Array Oper} {st : St} {r : Ex × St} {φ : Mp} {a : Act} {w : World} {Q : Exit → Act → World → Prop}
    (he : cRegion P F lim ops false st = some r) (hl : lim ≤ st.n) (ht : TR φ st.a a.tmps) (m : MemR P φ st.h st.n w S)
    (hQ : ∀ a' w' φ', r.1 = 0 → a'.defers = a.defers → TR φ' r.2.a a'.tmps → Fr φ φ' st.h r.2.h st.n r.2.n (fun id => lim ≤ id) w w' → MemR P φ' r.2.h r.2.n w' S → Q .normal a' w') : (Code.region id ops false).wp P Q a w := by
  change (aops P F lim lim ops.toList ops.toList st).bind (fun r => some (0, r)) = some r at he
  cases hs : aops P F lim lim ops.toList ops.toList st with
  | none => rw [hs] at he; cases he
  | some st' =>
    rw [hs] at he
    injection he with he
    subst he
    exact wp_region_list (aops_ok hF ops.toList hs hl ht m fun a' w' φ' h1 h2 h3 h4 => hQ a' w' φ' rfl h1 h2 h3 h4)
end
end Go.Proofs.Ytkngdfbibffdcaa.Ce
namespace Go.Proofs.Ytkngdfbibffdcaa.Ce
open Go.RowKit
structure Stat (h h' : Hp) (n n' : Nat) (Wr : Nat → Prop) : Prop where
  nle : n ≤ n'
  keep : ∀ id, id < n → ¬ Wr id → h'.get id = h.get id
  dd : ∀ id, id < n → h.get id = none → h'.get id = none
  hb : HB h' n'
section
variable {h h' h2 : Hp} {n n' n2 : Nat} {Wr Wr' : Nat → Prop}
theorem Stat.same (hb : HB h n) : Stat h h n n Wr := ⟨Nat.le_refl _, fun _ _ _ => rfl, fun _ _ hd => hd, hb⟩
theorem Stat.fresh (hb : HB h n) (o : AObj) : Stat h (h.set n o) n (n + 1) Wr :=
  ⟨by omega, fun id hid _ => Hp.get_ne _ _ (by omega), fun id hid hd => by rw [Hp.get_ne _ _ (by omega)]; exact hd, hb.new⟩
theorem Stat.set {id : Nat} (hb : HB h n) (hal : h.get id ≠ none) (o : AObj) (hw : Wr id) : Stat h (h.set id o) n n Wr :=
  ⟨Nat.le_refl _, fun k hk hn => Hp.get_ne _ _ (fun e => hn (by rw [e]; exact hw)), fun k hk hd => by rw [Hp.get_ne _ _ (fun e => hal (by rw [← e]; exact hd))]; exact hd, hb.set_ (hb.lt hal)⟩
theorem Stat.app {id : Nat} (hb : HB h n) (hal : h.get id ≠ none) (o : AObj) (hw : Wr id) : Stat h ((h.set id none).set n o) n (n + 1) Wr := by
  have hid := hb.lt hal
  refine ⟨by omega, fun k hk hn => ?_, fun k hk hd => ?_, (hb.set_ hid).new⟩
  · rw [Hp.get_ne _ _ (by omega), Hp.get_ne _ _ (fun e => hn (by rw [e]; exact hw))]
  · rw [Hp.get_ne _ _ (by omega), Hp.get_ne _ _ (fun e => hal (by rw [← e]; exact hd))]; exact hd
theorem Stat.trans (p : Stat h h' n n' Wr) (q : Stat h' h2 n' n2 Wr') (hw : ∀ id, id < n → Wr' id → Wr id) : Stat h h2 n n2 Wr := by
  have h1 := p.nle
  have h2 := q.nle
  exact ⟨by omega, fun id hid hn => by rw [q.keep id (by omega) fun h3 => hn (hw id hid h3), p.keep id hid hn], fun id hid hd => q.dd id (by omega) (p.dd id hid hd), q.hb⟩
theorem Stat.weaken (p : Stat h h' n n' Wr) (hw : ∀ id, id < n → Wr id → Wr' id) : Stat h h' n n' Wr' :=
  ⟨p.nle, fun id hid hn => p.keep id hid fun h3 => hn (hw id hid h3), p.dd, p.hb⟩
end
abbrev StatE (h : Hp) (n : Nat) (e : Ef) : Prop := Stat h e.h n e.n (· ∈ e.wr) ∧ ∀ id ∈ e.wr, id < n
theorem bind_some {α β : Type} {o : Option α} {f : α → Option β} {b : β} (hh : o.bind f = some b) : ∃ a, o = some a ∧ f a = some b := by
  cases o with
  | none => cases hh
  | some a => exact ⟨a, rfl, hh⟩
theorem bif_some {β : Type} {c : Bool} {x : Option β} {b : β} (hh : (bif c then x else none) = some b) : c = true ∧ x = some b := by
  cases c with
  | false => cases hh
  | true => exact ⟨rfl, hh⟩
theorem rwOf_ne {h : Hp} {id : Nat} {r : Nat × List Value} (hr : rwOf h id = some r) : h.get id ≠ none := by rw [rwOf_some hr]; simp
theorem mapOf_ne {h : Hp} {id : Nat} {r : Array MapEntry × Nat} (hr : mapOf h id = some r) : h.get id ≠ none := by rw [mapOf_some hr]; simp
theorem none_ne {α : Type} {e : α} (hh : none = some e) : False := by cases hh
theorem bind_elim {C : Prop} {α β : Type} {o : Option α} {f : α → Option β} {b : β} (hh : o.bind f = some b) (k : ∀ a, o = some a → f a = some b → C) : C := by
  obtain ⟨a, h1, h2⟩ := bind_some hh
  exact k a h1 h2
theorem bif_elim {C : Prop} {β : Type} {c : Bool} {x : Option β} {b : β} (hh : (bif c then x else none) = some b) (k : c = true → x = some b → C) : C := k (bif_some hh).1 (bif_some hh).2
theorem some_inv {α : Type} {a b : α} (hh : some a = some b) : a = b := by injection hh
section
variable {P : Program} {F : CallE} {h : Hp} {n : Nat} {e : Ef}
theorem mV_st {v : Value} (he : mV v h n = some e) (hb : HB h n) : StatE h n e := by unfold mV at he; (repeat' (first | (with_reducible exact (none_ne he).elim) | (with_reducible refine (?_ : (_ : Ef) = _ → _) (some_inv he); clear he; intro he; subst he; first | exact ⟨Stat.same hb, by simp⟩ | exact ⟨Stat.fresh hb _, by simp⟩ | exact ⟨Stat.set hb (rwOf_ne ‹rwOf _ _ = some _›) _ (by simp), by simpa using hb.lt (rwOf_ne ‹rwOf _ _ = some _›)⟩ | exact ⟨Stat.set hb (mapOf_ne ‹mapOf _ _ = some _›) _ (by simp), by simpa using hb.lt (mapOf_ne ‹mapOf _ _ = some _›)⟩ | exact ⟨Stat.app hb (rwOf_ne ‹rwOf _ _ = some _›) _ (by simp), by simpa using hb.lt (rwOf_ne ‹rwOf _ _ = some _›)⟩) | (with_reducible refine bind_elim he ?_; clear he; intro _ _ he) | (with_reducible refine bif_elim he ?_; clear he; intro _ he) | (split at he)))
theorem mVO_st {v : Option Value} (he : mVO v h n = some e) (hb : HB h n) : StatE h n e := by
  cases v with
  | none => cases he
  | some v => exact mV_st he hb
theorem mBin_st {op : BinOp} {t : TypeId} {x y : Value} (he : mBin P op t x y h n = some e) (hb : HB h n) : StatE h n e := by unfold mBin mV at he; (repeat' (first | (with_reducible exact (none_ne he).elim) | (with_reducible refine (?_ : (_ : Ef) = _ → _) (some_inv he); clear he; intro he; subst he; first | exact ⟨Stat.same hb, by simp⟩ | exact ⟨Stat.fresh hb _, by simp⟩ | exact ⟨Stat.set hb (rwOf_ne ‹rwOf _ _ = some _›) _ (by simp), by simpa using hb.lt (rwOf_ne ‹rwOf _ _ = some _›)⟩ | exact ⟨Stat.set hb (mapOf_ne ‹mapOf _ _ = some _›) _ (by simp), by simpa using hb.lt (mapOf_ne ‹mapOf _ _ = some _›)⟩ | exact ⟨Stat.app hb (rwOf_ne ‹rwOf _ _ = some _›) _ (by simp), by simpa using hb.lt (rwOf_ne ‹rwOf _ _ = some _›)⟩) | (with_reducible refine bind_elim he ?_; clear he; intro _ _ he) | (with_reducible refine bif_elim he ?_; clear he; intro _ he) | (split at he)))
theorem mFunc_st {fn : Fn} {a b : List Value} (he : mFunc fn a b h n = some e) (hb : HB h n) : StatE h n e := by unfold mFunc mV at he; (repeat' (first | (with_reducible exact (none_ne he).elim) | (with_reducible refine (?_ : (_ : Ef) = _ → _) (some_inv he); clear he; intro he; subst he; first | exact ⟨Stat.same hb, by simp⟩ | exact ⟨Stat.fresh hb _, by simp⟩ | exact ⟨Stat.set hb (rwOf_ne ‹rwOf _ _ = some _›) _ (by simp), by simpa using hb.lt (rwOf_ne ‹rwOf _ _ = some _›)⟩ | exact ⟨Stat.set hb (mapOf_ne ‹mapOf _ _ = some _›) _ (by simp), by simpa using hb.lt (mapOf_ne ‹mapOf _ _ = some _›)⟩ | exact ⟨Stat.app hb (rwOf_ne ‹rwOf _ _ = some _›) _ (by simp), by simpa using hb.lt (rwOf_ne ‹rwOf _ _ = some _›)⟩) | (with_reducible refine bind_elim he ?_; clear he; intro _ _ he) | (with_reducible refine bif_elim he ?_; clear he; intro _ he) | (split at he)))
theorem mPick_st {c x y : Value} (he : mPick c x y h n = some e) (hb : HB h n) : StatE h n e := by unfold mPick mV at he; (repeat' (first | (with_reducible exact (none_ne he).elim) | (with_reducible refine (?_ : (_ : Ef) = _ → _) (some_inv he); clear he; intro he; subst he; first | exact ⟨Stat.same hb, by simp⟩ | exact ⟨Stat.fresh hb _, by simp⟩ | exact ⟨Stat.set hb (rwOf_ne ‹rwOf _ _ = some _›) _ (by simp), by simpa using hb.lt (rwOf_ne ‹rwOf _ _ = some _›)⟩ | exact ⟨Stat.set hb (mapOf_ne ‹mapOf _ _ = some _›) _ (by simp), by simpa using hb.lt (mapOf_ne ‹mapOf _ _ = some _›)⟩ | exact ⟨Stat.app hb (rwOf_ne ‹rwOf _ _ = some _›) _ (by simp), by simpa using hb.lt (rwOf_ne ‹rwOf _ _ = some _›)⟩) | (with_reducible refine bind_elim he ?_; clear he; intro _ _ he) | (with_reducible refine bif_elim he ?_; clear he; intro _ he) | (split at he)))
theorem mExtract_st {x : Value} {i : Nat} (he : mExtract x i h n = some e) (hb : HB h n) : StatE h n e := by
  unfold mExtract at he
  split at he
  · exact mVO_st he hb
  · cases he
theorem mLoad_st {t : TypeId} {x : Value} (he : mLoad P t x h n = some e) (hb : HB h n) : StatE h n e := by unfold mLoad at he; (repeat' (first | (with_reducible exact (none_ne he).elim) | (with_reducible refine (?_ : (_ : Ef) = _ → _) (some_inv he); clear he; intro he; subst he; first | exact ⟨Stat.same hb, by simp⟩ | exact ⟨Stat.fresh hb _, by simp⟩ | exact ⟨Stat.set hb (rwOf_ne ‹rwOf _ _ = some _›) _ (by simp), by simpa using hb.lt (rwOf_ne ‹rwOf _ _ = some _›)⟩ | exact ⟨Stat.set hb (mapOf_ne ‹mapOf _ _ = some _›) _ (by simp), by simpa using hb.lt (mapOf_ne ‹mapOf _ _ = some _›)⟩ | exact ⟨Stat.app hb (rwOf_ne ‹rwOf _ _ = some _›) _ (by simp), by simpa using hb.lt (rwOf_ne ‹rwOf _ _ = some _›)⟩) | (with_reducible refine bind_elim he ?_; clear he; intro _ _ he) | (with_reducible refine bif_elim he ?_; clear he; intro _ he) | (split at he)))
theorem mStore_st {lim : Nat} {t : TypeId} {x y : Value} (he : mStore P lim t x y h n = some e) (hb : HB h n) : StatE h n e := by unfold mStore at he; (repeat' (first | (with_reducible exact (none_ne he).elim) | (with_reducible refine (?_ : (_ : Ef) = _ → _) (some_inv he); clear he; intro he; subst he; first | exact ⟨Stat.same hb, by simp⟩ | exact ⟨Stat.fresh hb _, by simp⟩ | exact ⟨Stat.set hb (rwOf_ne ‹rwOf _ _ = some _›) _ (by simp), by simpa using hb.lt (rwOf_ne ‹rwOf _ _ = some _›)⟩ | exact ⟨Stat.set hb (mapOf_ne ‹mapOf _ _ = some _›) _ (by simp), by simpa using hb.lt (mapOf_ne ‹mapOf _ _ = some _›)⟩ | exact ⟨Stat.app hb (rwOf_ne ‹rwOf _ _ = some _›) _ (by simp), by simpa using hb.lt (rwOf_ne ‹rwOf _ _ = some _›)⟩) | (with_reducible refine bind_elim he ?_; clear he; intro _ _ he) | (with_reducible refine bif_elim he ?_; clear he; intro _ he) | (split at he)))
theorem mNew_st {t : Nat} {cs : List Value} (he : mNew P t cs h n = some e) (hb : HB h n) : StatE h n e := by unfold mNew at he; (repeat' (first | (with_reducible exact (none_ne he).elim) | (with_reducible refine (?_ : (_ : Ef) = _ → _) (some_inv he); clear he; intro he; subst he; first | exact ⟨Stat.same hb, by simp⟩ | exact ⟨Stat.fresh hb _, by simp⟩ | exact ⟨Stat.set hb (rwOf_ne ‹rwOf _ _ = some _›) _ (by simp), by simpa using hb.lt (rwOf_ne ‹rwOf _ _ = some _›)⟩ | exact ⟨Stat.set hb (mapOf_ne ‹mapOf _ _ = some _›) _ (by simp), by simpa using hb.lt (mapOf_ne ‹mapOf _ _ = some _›)⟩ | exact ⟨Stat.app hb (rwOf_ne ‹rwOf _ _ = some _›) _ (by simp), by simpa using hb.lt (rwOf_ne ‹rwOf _ _ = some _›)⟩) | (with_reducible refine bind_elim he ?_; clear he; intro _ _ he) | (with_reducible refine bif_elim he ?_; clear he; intro _ he) | (split at he)))
theorem mAlloc_st {t : Nat} (he : mAlloc P t h n = some e) (hb : HB h n) : StatE h n e := by
  obtain ⟨_, _, he⟩ := bind_some he
  exact mNew_st he hb
theorem mBuild_st {t : TypeId} {parts : List (Nat × Value)} (he : mBuild P t parts h n = some e) (hb : HB h n) : StatE h n e := by unfold mBuild mV at he; (repeat' (first | (with_reducible exact (none_ne he).elim) | (with_reducible refine (?_ : (_ : Ef) = _ → _) (some_inv he); clear he; intro he; subst he; first | exact ⟨Stat.same hb, by simp⟩ | exact ⟨Stat.fresh hb _, by simp⟩ | exact ⟨Stat.set hb (rwOf_ne ‹rwOf _ _ = some _›) _ (by simp), by simpa using hb.lt (rwOf_ne ‹rwOf _ _ = some _›)⟩ | exact ⟨Stat.set hb (mapOf_ne ‹mapOf _ _ = some _›) _ (by simp), by simpa using hb.lt (mapOf_ne ‹mapOf _ _ = some _›)⟩ | exact ⟨Stat.app hb (rwOf_ne ‹rwOf _ _ = some _›) _ (by simp), by simpa using hb.lt (rwOf_ne ‹rwOf _ _ = some _›)⟩) | (with_reducible refine bind_elim he ?_; clear he; intro _ _ he) | (with_reducible refine bif_elim he ?_; clear he; intro _ he) | (split at he)))
theorem mBuildSlice_st {t : TypeId} {len : Nat} {parts : List (Nat × Value)} (he : mBuildSlice P t len parts h n = some e) (hb : HB h n) : StatE h n e := by unfold mBuildSlice at he; (repeat' (first | (with_reducible exact (none_ne he).elim) | (with_reducible refine (?_ : (_ : Ef) = _ → _) (some_inv he); clear he; intro he; subst he; first | exact ⟨Stat.same hb, by simp⟩ | exact ⟨Stat.fresh hb _, by simp⟩ | exact ⟨Stat.set hb (rwOf_ne ‹rwOf _ _ = some _›) _ (by simp), by simpa using hb.lt (rwOf_ne ‹rwOf _ _ = some _›)⟩ | exact ⟨Stat.set hb (mapOf_ne ‹mapOf _ _ = some _›) _ (by simp), by simpa using hb.lt (mapOf_ne ‹mapOf _ _ = some _›)⟩ | exact ⟨Stat.app hb (rwOf_ne ‹rwOf _ _ = some _›) _ (by simp), by simpa using hb.lt (rwOf_ne ‹rwOf _ _ = some _›)⟩) | (with_reducible refine bind_elim he ?_; clear he; intro _ _ he) | (with_reducible refine bif_elim he ?_; clear he; intro _ he) | (split at he)))
theorem mMakeSlice_st {t : TypeId} {l c : Value} (he : mMakeSlice P t l c h n = some e) (hb : HB h n) : StatE h n e := by unfold mMakeSlice at he; (repeat' (first | (with_reducible exact (none_ne he).elim) | (with_reducible refine (?_ : (_ : Ef) = _ → _) (some_inv he); clear he; intro he; subst he; first | exact ⟨Stat.same hb, by simp⟩ | exact ⟨Stat.fresh hb _, by simp⟩ | exact ⟨Stat.set hb (rwOf_ne ‹rwOf _ _ = some _›) _ (by simp), by simpa using hb.lt (rwOf_ne ‹rwOf _ _ = some _›)⟩ | exact ⟨Stat.set hb (mapOf_ne ‹mapOf _ _ = some _›) _ (by simp), by simpa using hb.lt (mapOf_ne ‹mapOf _ _ = some _›)⟩ | exact ⟨Stat.app hb (rwOf_ne ‹rwOf _ _ = some _›) _ (by simp), by simpa using hb.lt (rwOf_ne ‹rwOf _ _ = some _›)⟩) | (with_reducible refine bind_elim he ?_; clear he; intro _ _ he) | (with_reducible refine bif_elim he ?_; clear he; intro _ he) | (split at he)))
theorem mSlice_st {t : TypeId} {x : Value} {lo hi : Option Value} (he : mSlice P t x lo hi h n = some e) (hb : HB h n) : StatE h n e := by unfold mSlice mV at he; (repeat' (first | (with_reducible exact (none_ne he).elim) | (with_reducible refine (?_ : (_ : Ef) = _ → _) (some_inv he); clear he; intro he; subst he; first | exact ⟨Stat.same hb, by simp⟩ | exact ⟨Stat.fresh hb _, by simp⟩ | exact ⟨Stat.set hb (rwOf_ne ‹rwOf _ _ = some _›) _ (by simp), by simpa using hb.lt (rwOf_ne ‹rwOf _ _ = some _›)⟩ | exact ⟨Stat.set hb (mapOf_ne ‹mapOf _ _ = some _›) _ (by simp), by simpa using hb.lt (mapOf_ne ‹mapOf _ _ = some _›)⟩ | exact ⟨Stat.app hb (rwOf_ne ‹rwOf _ _ = some _›) _ (by simp), by simpa using hb.lt (rwOf_ne ‹rwOf _ _ = some _›)⟩) | (with_reducible refine bind_elim he ?_; clear he; intro _ _ he) | (with_reducible refine bif_elim he ?_; clear he; intro _ he) | (split at he)))
theorem mFieldAddr_st {t : TypeId} {x : Value} {f : Nat} (he : mFieldAddr P t x f h n = some e) (hb : HB h n) : StatE h n e := by unfold mFieldAddr mV at he; (repeat' (first | (with_reducible exact (none_ne he).elim) | (with_reducible refine (?_ : (_ : Ef) = _ → _) (some_inv he); clear he; intro he; subst he; first | exact ⟨Stat.same hb, by simp⟩ | exact ⟨Stat.fresh hb _, by simp⟩ | exact ⟨Stat.set hb (rwOf_ne ‹rwOf _ _ = some _›) _ (by simp), by simpa using hb.lt (rwOf_ne ‹rwOf _ _ = some _›)⟩ | exact ⟨Stat.set hb (mapOf_ne ‹mapOf _ _ = some _›) _ (by simp), by simpa using hb.lt (mapOf_ne ‹mapOf _ _ = some _›)⟩ | exact ⟨Stat.app hb (rwOf_ne ‹rwOf _ _ = some _›) _ (by simp), by simpa using hb.lt (rwOf_ne ‹rwOf _ _ = some _›)⟩) | (with_reducible refine bind_elim he ?_; clear he; intro _ _ he) | (with_reducible refine bif_elim he ?_; clear he; intro _ he) | (split at he)))
theorem mIndexAddr_st {t : TypeId} {x y : Value} (he : mIndexAddr P t x y h n = some e) (hb : HB h n) : StatE h n e := by unfold mIndexAddr mV at he; (repeat' (first | (with_reducible exact (none_ne he).elim) | (with_reducible refine (?_ : (_ : Ef) = _ → _) (some_inv he); clear he; intro he; subst he; first | exact ⟨Stat.same hb, by simp⟩ | exact ⟨Stat.fresh hb _, by simp⟩ | exact ⟨Stat.set hb (rwOf_ne ‹rwOf _ _ = some _›) _ (by simp), by simpa using hb.lt (rwOf_ne ‹rwOf _ _ = some _›)⟩ | exact ⟨Stat.set hb (mapOf_ne ‹mapOf _ _ = some _›) _ (by simp), by simpa using hb.lt (mapOf_ne ‹mapOf _ _ = some _›)⟩ | exact ⟨Stat.app hb (rwOf_ne ‹rwOf _ _ = some _›) _ (by simp), by simpa using hb.lt (rwOf_ne ‹rwOf _ _ = some _›)⟩) | (with_reducible refine bind_elim he ?_; clear he; intro _ _ he) | (with_reducible refine bif_elim he ?_; clear he; intro _ he) | (split at he)))
theorem mIndex_st {t : TypeId} {x y : Value} (he : mIndex P t x y h n = some e) (hb : HB h n) : StatE h n e := by unfold mIndex mV at he; (repeat' (first | (with_reducible exact (none_ne he).elim) | (with_reducible refine (?_ : (_ : Ef) = _ → _) (some_inv he); clear he; intro he; subst he; first | exact ⟨Stat.same hb, by simp⟩ | exact ⟨Stat.fresh hb _, by simp⟩ | exact ⟨Stat.set hb (rwOf_ne ‹rwOf _ _ = some _›) _ (by simp), by simpa using hb.lt (rwOf_ne ‹rwOf _ _ = some _›)⟩ | exact ⟨Stat.set hb (mapOf_ne ‹mapOf _ _ = some _›) _ (by simp), by simpa using hb.lt (mapOf_ne ‹mapOf _ _ = some _›)⟩ | exact ⟨Stat.app hb (rwOf_ne ‹rwOf _ _ = some _›) _ (by simp), by simpa using hb.lt (rwOf_ne ‹rwOf _ _ = some _›)⟩) | (with_reducible refine bind_elim he ?_; clear he; intro _ _ he) | (with_reducible refine bif_elim he ?_; clear he; intro _ he) | (split at he)))
theorem mUn_st {op : UnOp} {x : Value} (he : mUn P op x h n = some e) (hb : HB h n) : StatE h n e := by unfold mUn mV at he; (repeat' (first | (with_reducible exact (none_ne he).elim) | (with_reducible refine (?_ : (_ : Ef) = _ → _) (some_inv he); clear he; intro he; subst he; first | exact ⟨Stat.same hb, by simp⟩ | exact ⟨Stat.fresh hb _, by simp⟩ | exact ⟨Stat.set hb (rwOf_ne ‹rwOf _ _ = some _›) _ (by simp), by simpa using hb.lt (rwOf_ne ‹rwOf _ _ = some _›)⟩ | exact ⟨Stat.set hb (mapOf_ne ‹mapOf _ _ = some _›) _ (by simp), by simpa using hb.lt (mapOf_ne ‹mapOf _ _ = some _›)⟩ | exact ⟨Stat.app hb (rwOf_ne ‹rwOf _ _ = some _›) _ (by simp), by simpa using hb.lt (rwOf_ne ‹rwOf _ _ = some _›)⟩) | (with_reducible refine bind_elim he ?_; clear he; intro _ _ he) | (with_reducible refine bif_elim he ?_; clear he; intro _ he) | (split at he)))
theorem mConvert_st {s d : TypeId} {x : Value} (he : mConvert P s d x h n = some e) (hb : HB h n) : StatE h n e := by
  unfold mConvert at he
  split at he
  · split at he
    · exact mVO_st he hb
    · exact mVO_st he hb
    · cases he
  · (repeat' (first | (with_reducible exact (none_ne he).elim) | (with_reducible refine (?_ : (_ : Ef) = _ → _) (some_inv he); clear he; intro he; subst he; first | exact ⟨Stat.same hb, by simp⟩ | exact ⟨Stat.fresh hb _, by simp⟩ | exact ⟨Stat.set hb (rwOf_ne ‹rwOf _ _ = some _›) _ (by simp), by simpa using hb.lt (rwOf_ne ‹rwOf _ _ = some _›)⟩ | exact ⟨Stat.set hb (mapOf_ne ‹mapOf _ _ = some _›) _ (by simp), by simpa using hb.lt (mapOf_ne ‹mapOf _ _ = some _›)⟩ | exact ⟨Stat.app hb (rwOf_ne ‹rwOf _ _ = some _›) _ (by simp), by simpa using hb.lt (rwOf_ne ‹rwOf _ _ = some _›)⟩) | (with_reducible refine bind_elim he ?_; clear he; intro _ _ he) | (with_reducible refine bif_elim he ?_; clear he; intro _ he) | (split at he)))
  · unfold mV at he; (repeat' (first | (with_reducible exact (none_ne he).elim) | (with_reducible refine (?_ : (_ : Ef) = _ → _) (some_inv he); clear he; intro he; subst he; first | exact ⟨Stat.same hb, by simp⟩ | exact ⟨Stat.fresh hb _, by simp⟩ | exact ⟨Stat.set hb (rwOf_ne ‹rwOf _ _ = some _›) _ (by simp), by simpa using hb.lt (rwOf_ne ‹rwOf _ _ = some _›)⟩ | exact ⟨Stat.set hb (mapOf_ne ‹mapOf _ _ = some _›) _ (by simp), by simpa using hb.lt (mapOf_ne ‹mapOf _ _ = some _›)⟩ | exact ⟨Stat.app hb (rwOf_ne ‹rwOf _ _ = some _›) _ (by simp), by simpa using hb.lt (rwOf_ne ‹rwOf _ _ = some _›)⟩) | (with_reducible refine bind_elim he ?_; clear he; intro _ _ he) | (with_reducible refine bif_elim he ?_; clear he; intro _ he) | (split at he)))
  · (repeat' (first | (with_reducible exact (none_ne he).elim) | (with_reducible refine (?_ : (_ : Ef) = _ → _) (some_inv he); clear he; intro he; subst he; first | exact ⟨Stat.same hb, by simp⟩ | exact ⟨Stat.fresh hb _, by simp⟩ | exact ⟨Stat.set hb (rwOf_ne ‹rwOf _ _ = some _›) _ (by simp), by simpa using hb.lt (rwOf_ne ‹rwOf _ _ = some _›)⟩ | exact ⟨Stat.set hb (mapOf_ne ‹mapOf _ _ = some _›) _ (by simp), by simpa using hb.lt (mapOf_ne ‹mapOf _ _ = some _›)⟩ | exact ⟨Stat.app hb (rwOf_ne ‹rwOf _ _ = some _›) _ (by simp), by simpa using hb.lt (rwOf_ne ‹rwOf _ _ = some _›)⟩) | (with_reducible refine bind_elim he ?_; clear he; intro _ _ he) | (with_reducible refine bif_elim he ?_; clear he; intro _ he) | (split at he)))
  · unfold mV at he; (repeat' (first | (with_reducible exact (none_ne he).elim) | (with_reducible refine (?_ : (_ : Ef) = _ → _) (some_inv he); clear he; intro he; subst he; first | exact ⟨Stat.same hb, by simp⟩ | exact ⟨Stat.fresh hb _, by simp⟩ | exact ⟨Stat.set hb (rwOf_ne ‹rwOf _ _ = some _›) _ (by simp), by simpa using hb.lt (rwOf_ne ‹rwOf _ _ = some _›)⟩ | exact ⟨Stat.set hb (mapOf_ne ‹mapOf _ _ = some _›) _ (by simp), by simpa using hb.lt (mapOf_ne ‹mapOf _ _ = some _›)⟩ | exact ⟨Stat.app hb (rwOf_ne ‹rwOf _ _ = some _›) _ (by simp), by simpa using hb.lt (rwOf_ne ‹rwOf _ _ = some _›)⟩) | (with_reducible refine bind_elim he ?_; clear he; intro _ _ he) | (with_reducible refine bif_elim he ?_; clear he; intro _ he) | (split at he)))
  · cases he
theorem mMakeMap_st (he : mMakeMap h n = some e) (hb : HB h n) : StatE h n e := by unfold mMakeMap at he; (repeat' (first | (with_reducible exact (none_ne he).elim) | (with_reducible refine (?_ : (_ : Ef) = _ → _) (some_inv he); clear he; intro he; subst he; first | exact ⟨Stat.same hb, by simp⟩ | exact ⟨Stat.fresh hb _, by simp⟩ | exact ⟨Stat.set hb (rwOf_ne ‹rwOf _ _ = some _›) _ (by simp), by simpa using hb.lt (rwOf_ne ‹rwOf _ _ = some _›)⟩ | exact ⟨Stat.set hb (mapOf_ne ‹mapOf _ _ = some _›) _ (by simp), by simpa using hb.lt (mapOf_ne ‹mapOf _ _ = some _›)⟩ | exact ⟨Stat.app hb (rwOf_ne ‹rwOf _ _ = some _›) _ (by simp), by simpa using hb.lt (rwOf_ne ‹rwOf _ _ = some _›)⟩) | (with_reducible refine bind_elim he ?_; clear he; intro _ _ he) | (with_reducible refine bif_elim he ?_; clear he; intro _ he) | (split at he)))
theorem mLookup_st {t : TypeId} {m k : Value} {ok : Bool} (he : mLookup P t m k ok h n = some e) (hb : HB h n) : StatE h n e := by unfold mLookup at he; (repeat' (first | (with_reducible exact (none_ne he).elim) | (with_reducible refine (?_ : (_ : Ef) = _ → _) (some_inv he); clear he; intro he; subst he; first | exact ⟨Stat.same hb, by simp⟩ | exact ⟨Stat.fresh hb _, by simp⟩ | exact ⟨Stat.set hb (rwOf_ne ‹rwOf _ _ = some _›) _ (by simp), by simpa using hb.lt (rwOf_ne ‹rwOf _ _ = some _›)⟩ | exact ⟨Stat.set hb (mapOf_ne ‹mapOf _ _ = some _›) _ (by simp), by simpa using hb.lt (mapOf_ne ‹mapOf _ _ = some _›)⟩ | exact ⟨Stat.app hb (rwOf_ne ‹rwOf _ _ = some _›) _ (by simp), by simpa using hb.lt (rwOf_ne ‹rwOf _ _ = some _›)⟩) | (with_reducible refine bind_elim he ?_; clear he; intro _ _ he) | (with_reducible refine bif_elim he ?_; clear he; intro _ he) | (split at he)))
theorem mMapUpdate_st {lim : Nat} {t : TypeId} {m k x : Value} (he : mMapUpdate P lim t m k x h n = some e) (hb : HB h n) : StatE h n e := by unfold mMapUpdate at he; (repeat' (first | (with_reducible exact (none_ne he).elim) | (with_reducible refine (?_ : (_ : Ef) = _ → _) (some_inv he); clear he; intro he; subst he; first | exact ⟨Stat.same hb, by simp⟩ | exact ⟨Stat.fresh hb _, by simp⟩ | exact ⟨Stat.set hb (rwOf_ne ‹rwOf _ _ = some _›) _ (by simp), by simpa using hb.lt (rwOf_ne ‹rwOf _ _ = some _›)⟩ | exact ⟨Stat.set hb (mapOf_ne ‹mapOf _ _ = some _›) _ (by simp), by simpa using hb.lt (mapOf_ne ‹mapOf _ _ = some _›)⟩ | exact ⟨Stat.app hb (rwOf_ne ‹rwOf _ _ = some _›) _ (by simp), by simpa using hb.lt (rwOf_ne ‹rwOf _ _ = some _›)⟩) | (with_reducible refine bind_elim he ?_; clear he; intro _ _ he) | (with_reducible refine bif_elim he ?_; clear he; intro _ he) | (split at he)))
theorem mLen_st {t : TypeId} {x : Value} (he : mLen P t x h n = some e) (hb : HB h n) : StatE h n e := by unfold mLen mV at he; (repeat' (first | (with_reducible exact (none_ne he).elim) | (with_reducible refine (?_ : (_ : Ef) = _ → _) (some_inv he); clear he; intro he; subst he; first | exact ⟨Stat.same hb, by simp⟩ | exact ⟨Stat.fresh hb _, by simp⟩ | exact ⟨Stat.set hb (rwOf_ne ‹rwOf _ _ = some _›) _ (by simp), by simpa using hb.lt (rwOf_ne ‹rwOf _ _ = some _›)⟩ | exact ⟨Stat.set hb (mapOf_ne ‹mapOf _ _ = some _›) _ (by simp), by simpa using hb.lt (mapOf_ne ‹mapOf _ _ = some _›)⟩ | exact ⟨Stat.app hb (rwOf_ne ‹rwOf _ _ = some _›) _ (by simp), by simpa using hb.lt (rwOf_ne ‹rwOf _ _ = some _›)⟩) | (with_reducible refine bind_elim he ?_; clear he; intro _ _ he) | (with_reducible refine bif_elim he ?_; clear he; intro _ he) | (split at he)))
theorem mMax_st {b : Bool} {x y : Value} (he : mMax b x y h n = some e) (hb : HB h n) : StatE h n e := by unfold mMax mV at he; (repeat' (first | (with_reducible exact (none_ne he).elim) | (with_reducible refine (?_ : (_ : Ef) = _ → _) (some_inv he); clear he; intro he; subst he; first | exact ⟨Stat.same hb, by simp⟩ | exact ⟨Stat.fresh hb _, by simp⟩ | exact ⟨Stat.set hb (rwOf_ne ‹rwOf _ _ = some _›) _ (by simp), by simpa using hb.lt (rwOf_ne ‹rwOf _ _ = some _›)⟩ | exact ⟨Stat.set hb (mapOf_ne ‹mapOf _ _ = some _›) _ (by simp), by simpa using hb.lt (mapOf_ne ‹mapOf _ _ = some _›)⟩ | exact ⟨Stat.app hb (rwOf_ne ‹rwOf _ _ = some _›) _ (by simp), by simpa using hb.lt (rwOf_ne ‹rwOf _ _ = some _›)⟩) | (with_reducible refine bind_elim he ?_; clear he; intro _ _ he) | (with_reducible refine bif_elim he ?_; clear he; intro _ he) | (split at he)))
theorem mAppendTo_st {lim el size m : Nat} {s : Value} {news : List Value} {rd : List Nat} (he : mAppendTo lim el size s m news rd h n = some e) (hb : HB h n) : StatE h n e := by
  unfold mAppendTo mV at he
  split at he
  · cases hm : Nat.beq m 0 with
    | true => rw [hm] at he; injection he with he; subst he; exact ⟨Stat.same hb, by simp⟩
    | false => rw [hm] at he; injection he with he; subst he; exact ⟨Stat.fresh hb _, by simp⟩
  · (repeat' (first | (with_reducible exact (none_ne he).elim) | (with_reducible refine (?_ : (_ : Ef) = _ → _) (some_inv he); clear he; intro he; subst he; first | exact ⟨Stat.same hb, by simp⟩ | exact ⟨Stat.fresh hb _, by simp⟩ | exact ⟨Stat.set hb (rwOf_ne ‹rwOf _ _ = some _›) _ (by simp), by simpa using hb.lt (rwOf_ne ‹rwOf _ _ = some _›)⟩ | exact ⟨Stat.set hb (mapOf_ne ‹mapOf _ _ = some _›) _ (by simp), by simpa using hb.lt (mapOf_ne ‹mapOf _ _ = some _›)⟩ | exact ⟨Stat.app hb (rwOf_ne ‹rwOf _ _ = some _›) _ (by simp), by simpa using hb.lt (rwOf_ne ‹rwOf _ _ = some _›)⟩) | (with_reducible refine bind_elim he ?_; clear he; intro _ _ he) | (with_reducible refine bif_elim he ?_; clear he; intro _ he) | (split at he)))
  · cases he
theorem mAppend0_st {lim : Nat} {t t2 : TypeId} {s x : Value} (he : mAppend0 P lim t t2 s x h n = some e) (hb : HB h n) : StatE h n e := by
  unfold mAppend0 at he
  obtain ⟨_, _, he⟩ := bind_some he
  split at he
  · obtain ⟨_, he⟩ := bif_some he
    obtain ⟨_, _, he⟩ := bind_some he
    obtain ⟨_, he⟩ := bif_some he
    exact mAppendTo_st he hb
  · cases he
theorem mAppendR_st {t t2 : TypeId} {s x : Value} (he : mAppendR P t t2 s x h n = some e) (hb : HB h n) : StatE h n e := by
  unfold mAppendR at he
  split at he
  · obtain ⟨_, _, he⟩ := bind_some he
    obtain ⟨_, he⟩ := bif_some he
    obtain ⟨_, _, he⟩ := bind_some he
    obtain ⟨_, _, he⟩ := bind_some he
    split at he
    · obtain ⟨_, he⟩ := bif_some he
      obtain ⟨_, _, he⟩ := bind_some he
      obtain ⟨_, he⟩ := bif_some he
      obtain ⟨_, _, he⟩ := bind_some he
      injection he with he
      subst he
      exact ⟨Stat.fresh hb _, by simp⟩
    · cases he
  · cases he
theorem mAppendS_st {lim : Nat} {t : TypeId} {s x : Value} (he : mAppendS P lim t s x h n = some e) (hb : HB h n) : StatE h n e := by
  unfold mAppendS at he
  split at he
  · obtain ⟨_, _, he⟩ := bind_some he
    obtain ⟨_, _, he⟩ := bind_some he
    split at he
    · obtain ⟨_, he⟩ := bif_some he
      exact mAppendTo_st he hb
    · cases he
  · cases he
theorem mAppend_st {lim : Nat} {t t2 : TypeId} {s x : Value} (he : mAppend P lim t t2 s x h n = some e) (hb : HB h n) : StatE h n e := by
  unfold mAppend at he
  cases h2 : tyStr P t2 with
  | true => rw [h2] at he; exact mAppendS_st he hb
  | false =>
    rw [h2, cond_false] at he
    cases hR : mAppendR P t t2 s x h n with
    | none => rw [hR] at he; exact mAppend0_st he hb
    | some r =>
      rw [hR] at he
      have he : r = e := by injection he
      subst he
      exact mAppendR_st hR hb
theorem mCopy_st {lim : Nat} {t : TypeId} {d s : Value} (he : mCopy P lim t d s h n = some e) (hb : HB h n) : StatE h n e := by unfold mCopy at he; (repeat' (first | (with_reducible exact (none_ne he).elim) | (with_reducible refine (?_ : (_ : Ef) = _ → _) (some_inv he); clear he; intro he; subst he; first | exact ⟨Stat.same hb, by simp⟩ | exact ⟨Stat.fresh hb _, by simp⟩ | exact ⟨Stat.set hb (rwOf_ne ‹rwOf _ _ = some _›) _ (by simp), by simpa using hb.lt (rwOf_ne ‹rwOf _ _ = some _›)⟩ | exact ⟨Stat.set hb (mapOf_ne ‹mapOf _ _ = some _›) _ (by simp), by simpa using hb.lt (mapOf_ne ‹mapOf _ _ = some _›)⟩ | exact ⟨Stat.app hb (rwOf_ne ‹rwOf _ _ = some _›) _ (by simp), by simpa using hb.lt (rwOf_ne ‹rwOf _ _ = some _›)⟩) | (with_reducible refine bind_elim he ?_; clear he; intro _ _ he) | (with_reducible refine bif_elim he ?_; clear he; intro _ he) | (split at he)))
theorem mBuiltin_st {lim : Nat} {b : Builtin} {args : List Value} {ts : List TypeId} (he : mBuiltin P lim b args ts h n = some e) (hb : HB h n) : StatE h n e := by
  unfold mBuiltin at he
  split at he
  · exact mLen_st he hb
  · exact mAppend_st he hb
  · exact mCopy_st he hb
  · exact mMax_st he hb
  · exact mMax_st he hb
  · cases he
def StatF (F : CallE) : Prop := ∀ cl g args h n v h' n', F cl g args h n = some (v, h', n') → cl ≤ n → HB h n → Stat h h' n n' (fun id => cl ≤ id)
theorem aop_st (hF : StatF F) {lim cl : Nat} {o : Op} {ρ : Operand → Value} (he : aop o P F lim cl ρ h n = some e) (hcl : cl ≤ n) (hb : HB h n) :
    Stat h e.h n e.n (fun id => id ∈ e.wr ∨ isCall o = true ∧ cl ≤ id) ∧ ∀ id ∈ e.wr, id < n := by
  have wk : StatE h n e → Stat h e.h n e.n (fun id => id ∈ e.wr ∨ isCall o = true ∧ cl ≤ id) ∧ ∀ id ∈ e.wr, id < n := fun p => ⟨p.1.weaken fun _ _ hh => .inl hh, p.2⟩
  cases o with
  | move x => exact wk (mV_st he hb)
  | assign x => exact wk (mV_st he hb)
  | pick c a b => exact wk (mPick_st he hb)
  | alloc t => exact wk (mAlloc_st he hb)
  | box t x => exact wk (mNew_st he hb)
  | build t parts => exact wk (mBuild_st he hb)
  | buildSlice t len parts => exact wk (mBuildSlice_st he hb)
  | load t x => exact wk (mLoad_st he hb)
  | store t x y => exact wk (mStore_st he hb)
  | binOp op t x y yt => exact wk (mBin_st he hb)
  | unOp op t x => exact wk (mUn_st he hb)
  | convert src dst x => exact wk (mConvert_st he hb)
  | makeMap t r =>
    cases r with
    | none => exact wk (mMakeMap_st he hb)
    | some r => cases he
  | makeSlice t l c => exact wk (mMakeSlice_st he hb)
  | slice t x lo hi mx =>
    cases mx with
    | some m => cases he
    | none => exact wk (mSlice_st he hb)
  | fieldAddr s x f => exact wk (mFieldAddr_st he hb)
  | indexAddr t x ix => exact wk (mIndexAddr_st he hb)
  | index t x ix => exact wk (mIndex_st he hb)
  | lookup t m k ok => exact wk (mLookup_st he hb)
  | mapUpdate t m k x => exact wk (mMapUpdate_st he hb)
  | extract x i => exact wk (mExtract_st he hb)
  | makeFunc fn first captured => exact wk (mFunc_st he hb)
  | call c =>
    obtain ⟨callee, ⟨args⟩, ⟨ts⟩⟩ := c
    cases callee with
    | value f =>
      obtain ⟨g, first, cap, -, -, ⟨x, v, h', n', -, hr, rfl⟩ | ⟨b, c, -, -, rfl⟩⟩ := callF_some (P := P) he
      · exact ⟨(hF cl g _ h n v h' n' hr hcl hb).weaken fun id _ hh => .inr ⟨rfl, hh⟩, by simp⟩
      · exact ⟨Stat.same hb, by simp⟩
    | invoke r m => cases he
    | builtin b => exact wk (mBuiltin_st he hb)
  | _ => cases he
end
end Go.Proofs.Ytkngdfbibffdcaa.Ce
namespace Go.Proofs.Ytkngdfbibffdcaa.Ce
open Go.RowKit
section
variable {P : Program} {F : CallE}
theorem aopS_st (hF : StatF F) {lim cl : Nat} {ops : List Oper} {o : Oper} {st st' : St} {fp : Fp} (he : aopS P F lim cl ops o st = some (st', fp)) (hcl : cl ≤ st.n) (hb : HB st.h st.n) :
    Stat st.h st'.h st.n st'.n (fun id => id ∈ fp.wr ∨ fp.cl = true ∧ cl ≤ id) ∧ (∀ id ∈ fp.wr, lim ≤ id) ∧ ∀ id ∈ fp.wr, id < st.n := by
  rcases aopS_inv he with ⟨hw, rfl, rfl⟩ | ⟨hw, e, hop, hwr, -, rfl, rfl⟩
  · exact ⟨Stat.same hb, by simp, by simp⟩
  · exact ⟨(aop_st hF hop hcl hb).1, hwr, (aop_st hF hop hcl hb).2⟩
theorem aops_st (hF : StatF F) {lim : Nat} {ops : List Oper} : ∀ (l : List Oper) {st st' : St}, aops P F lim lim ops l st = some st' → lim ≤ st.n → HB st.h st.n → Stat st.h st'.h st.n st'.n (fun id => lim ≤ id) := by
  intro l
  induction l with
  | nil => intro st st' he hl hb; injection he with he; subst he; exact Stat.same hb
  | cons o rest ih =>
    intro st st' he hl hb
    change (aopS P F lim lim ops o st).bind (fun r => aops P F lim lim ops rest r.1) = some st' at he
    obtain ⟨r, h1, h2⟩ := bind_some he
    obtain ⟨p, hwr, -⟩ := aopS_st (st' := r.1) (fp := r.2) hF h1 hl hb
    have p' := p.weaken (Wr' := fun id => lim ≤ id) fun id _ hh => hh.elim (hwr id) fun h3 => h3.2
    exact p'.trans (ih h2 (Nat.le_trans hl p.nle) p.hb) fun _ _ hh => hh
structure OpD (P : Program) (F : CallE) (lim : Nat) (ops : List Oper) (o : Oper) (st st' : St) (x : Fp) (cl : Nat) (fp : Fp) : Prop where
  run : aopS P F lim cl ops o st = some (st', fp)
  le : cl ≤ st.n
  rd : x.rd = fp.rd
  cl_ : x.cl = fp.cl
  sub : ∀ id, id < st.n → id ∈ fp.wr ∨ fp.cl = true ∧ cl ≤ id → id ∈ x.wr
  sup : ∀ id, id ∈ x.wr → id ∈ fp.wr ∨ fp.cl = true ∧ cl ≤ id
  lim_ : ∀ id, id ∈ x.wr → id ∈ fp.wr ∨ lim ≤ id ∧ id < st.n
theorem aopsD_trace {lim : Nat} {us : List (Nat × Nat)} {ops : List Oper} : ∀ (l : List Oper) {i0 : Nat} {st st' : St} {acc fps : List Fp}, aopsD P F lim us ops l i0 st acc = some (st', fps) →
    ∃ (sts : Nat → St) (fpf : Nat → Fp), sts 0 = st ∧ sts l.length = st' ∧ (∀ (i : Nat) (o : Oper), l[i]? = some o → lim ≤ (sts i).n → ∃ cl fp, OpD P F lim ops o (sts i) (sts (i + 1)) (fpf i) cl fp) ∧ fps = acc.reverse ++ (List.range l.length).map fpf := by
  intro l
  induction l with
  | nil =>
    intro i0 st st' acc fps he
    injection he with he
    injection he with h1 h2
    exact ⟨fun _ => st, fun _ => ⟨[], [], false, 0, 0⟩, rfl, h1, by simp, by simp [h2]⟩
  | cons o rest ih =>
    intro i0 st st' acc fps he
    have key : ∃ st1 x, (lim ≤ st.n → ∃ cl fp, OpD P F lim ops o st st1 x cl fp) ∧ aopsD P F lim us ops rest (Nat.succ i0) st1 (x :: acc) = some (st', fps) := by
      change Bool.rec ((aopS P F lim st.n ops o st).bind fun r => aopsD P F lim us ops rest (Nat.succ i0) r.1 (r.2 :: acc))
        ((aopS P F lim lim ops o st).bind fun r => aopsD P F lim us ops rest (Nat.succ i0) r.1 (wide lim st.n r.2 :: acc)) (isCall o.op && solo us i0) = some (st', fps) at he
      cases hc : (isCall o.op && solo us i0) with
      | false =>
        rw [hc] at he
        obtain ⟨r, h1, h2⟩ := bind_some he
        exact ⟨r.1, r.2, fun _ => ⟨st.n, r.2, h1, Nat.le_refl _, rfl, rfl, fun id h3 h4 => h4.elim (fun h => h) fun h => by omega, fun id h => .inl h, fun id h => .inl h⟩, h2⟩
      | true =>
        rw [hc] at he
        obtain ⟨r, h1, h2⟩ := bind_some he
        refine ⟨r.1, wide lim st.n r.2, fun hl => ⟨lim, r.2, ?_⟩, h2⟩
        unfold wide
        cases hcl : r.2.cl with
        | false => exact ⟨h1, hl, rfl, rfl, fun id h3 h4 => h4.elim (fun h => h) fun h => (by rw [hcl] at h; cases h.1), fun id h => .inl h, fun id h => .inl h⟩
        | true =>
          have hin : ∀ id, id ∈ List.range' lim (st.n - lim) ↔ lim ≤ id ∧ id < st.n := fun id => by
            rw [List.mem_range'_1]
            omega
          refine ⟨h1, hl, rfl, hcl.symm ▸ rfl, fun id h3 h4 => (hin id).2 ⟨?_, h3⟩, fun id h => .inr ⟨hcl, ((hin id).1 h).1⟩, fun id h => .inr ((hin id).1 h)⟩
          rcases h4 with h4 | h4
          · rcases aopS_inv (st' := r.1) (fp := r.2) h1 with ⟨hw, e1, e2⟩ | ⟨hw, e, hop, hwr, -, e1, e2⟩
            · rw [e2] at h4; simp at h4
            · rw [e2] at h4; exact hwr id h4
          · exact h4.2
    obtain ⟨st1, x, h1, h2⟩ := key
    obtain ⟨sts, fpf, e0, e1, e2, e3⟩ := ih h2
    refine ⟨fun i => match i with | 0 => st | i + 1 => sts i, fun i => match i with | 0 => x | i + 1 => fpf i, rfl, by simpa using e1, ?_, ?_⟩
    · intro i y hy
      cases i with
      | zero =>
        simp at hy
        subst hy
        simp only [Nat.zero_add]
        rw [e0]
        exact h1
      | succ i => exact e2 i y (by simpa using hy)
    · rw [e3, List.length_cons, List.range_succ_eq_map]
      simp [Function.comp_def]
theorem OpD.st (hF : StatF F) {lim cl : Nat} {ops : List Oper} {o : Oper} {st st' : St} {x fp : Fp} (p : OpD P F lim ops o st st' x cl fp) (hb : HB st.h st.n) :
    Stat st.h st'.h st.n st'.n (· ∈ x.wr) ∧ ∀ id ∈ x.wr, lim ≤ id ∧ id < st.n := by
  obtain ⟨q, hwr, hwn⟩ := aopS_st hF p.run p.le hb
  exact ⟨q.weaken fun id hid hh => p.sub id hid hh, fun id hid => (p.lim_ id hid).elim (fun h => ⟨hwr id h, hwn id h⟩) fun h => h⟩
theorem trace_st (hF : StatF F) {lim : Nat} {ops : List Oper} {sts : Nat → St} {fpf : Nat → Fp} {N : Nat} {l : List Oper} (hN : l.length = N)
    (ht : ∀ (i : Nat) (o : Oper), l[i]? = some o → lim ≤ (sts i).n → ∃ cl fp, OpD P F lim ops o (sts i) (sts (i + 1)) (fpf i) cl fp)
    (hl : lim ≤ (sts 0).n) (hb : HB (sts 0).h (sts 0).n) : ∀ i, i ≤ N → lim ≤ (sts i).n ∧ HB (sts i).h (sts i).n ∧ (i < N → Stat (sts i).h (sts (i + 1)).h (sts i).n (sts (i + 1)).n (· ∈ (fpf i).wr) ∧ ∀ id ∈ (fpf i).wr, lim ≤ id ∧ id < (sts i).n) := by
  have key : ∀ i, i < N → lim ≤ (sts i).n → HB (sts i).h (sts i).n → Stat (sts i).h (sts (i + 1)).h (sts i).n (sts (i + 1)).n (· ∈ (fpf i).wr) ∧ ∀ id ∈ (fpf i).wr, lim ≤ id ∧ id < (sts i).n := fun i hi hli hbi => by
    obtain ⟨o, ho⟩ : ∃ o, l[i]? = some o := ⟨l[i], List.getElem?_eq_getElem (by omega)⟩
    obtain ⟨cl, fp, p⟩ := ht i o ho hli
    exact p.st hF hbi
  have hbs : ∀ i, i ≤ N → lim ≤ (sts i).n ∧ HB (sts i).h (sts i).n := by
    intro i
    induction i with
    | zero => exact fun _ => ⟨hl, hb⟩
    | succ i ih =>
      intro hi
      obtain ⟨h1, h2⟩ := ih (by omega)
      have p := (key i (by omega) h1 h2).1
      exact ⟨Nat.le_trans h1 p.nle, p.hb⟩
  exact fun i hi => ⟨(hbs i hi).1, (hbs i hi).2, fun h => key i h (hbs i hi).1 (hbs i hi).2⟩
theorem cRegion_st (hF : StatF F) {lim : Nat} {ops : Array Oper} {d : Bool} {st : St} {r : Ex × St} (he : cRegion P F lim ops d st = some r) (hl : lim ≤ st.n) (hb : HB st.h st.n) :
    Stat st.h r.2.h st.n r.2.n (fun id => lim ≤ id) := by
  cases d with
  | false =>
    change (aops P F lim lim ops.toList ops.toList st).bind (fun r => some (0, r)) = some r at he
    obtain ⟨st', h1, h2⟩ := bind_some he
    injection h2 with h2
    subst h2
    exact aops_st hF _ h1 hl hb
  | true =>
    change ((unordered ops).bind fun us => (aopsD P F lim us ops.toList ops.toList 0 st []).bind fun r => bif pairsOk us r.2 then some (0, r.1) else none) = some r at he
    obtain ⟨us, -, he⟩ := bind_some he
    obtain ⟨x, h1, h2⟩ := bind_some he
    obtain ⟨-, h2⟩ := bif_some h2
    injection h2 with h2
    subst h2
    obtain ⟨sts, fpf, e0, e1, e2, -⟩ := aopsD_trace ops.toList (st' := x.1) (fps := x.2) h1
    have hs := trace_st hF (N := ops.toList.length) rfl e2 (by rw [e0]; exact hl) (by rw [e0]; exact hb)
    have key : ∀ i, i ≤ ops.toList.length → Stat (sts 0).h (sts i).h (sts 0).n (sts i).n (fun id => lim ≤ id) := by
      intro i
      induction i with
      | zero => exact fun _ => Stat.same (by rw [e0]; exact hb)
      | succ i ih =>
        intro hi
        obtain ⟨p, hwr⟩ := (hs i (by omega)).2.2 (by omega)
        exact (ih (by omega)).trans (p.weaken (Wr' := fun id => lim ≤ id) fun id _ hh => (hwr id hh).1) fun _ _ hh => hh
    have := key _ (Nat.le_refl _)
    rw [e0, e1] at this
    exact this
theorem aloop_st {lim : Nat} {X : St → Option (Ex × St)} (hX : ∀ {st : St} {r : Ex × St}, X st = some r → lim ≤ st.n → HB st.h st.n → Stat st.h r.2.h st.n r.2.n (fun id => lim ≤ id)) :
    ∀ (j : Nat) {st : St} {r : Ex × St}, aloop X j st = some r → lim ≤ st.n → HB st.h st.n → Stat st.h r.2.h st.n r.2.n (fun id => lim ≤ id) := by
  intro j
  induction j with
  | zero => intro st r he; cases he
  | succ j ih =>
    intro st r he hl hb
    change (X st).bind (fun r => bif Nat.beq r.1 0 then aloop X j r.2 else some r) = some r at he
    obtain ⟨r1, h1, h2⟩ := bind_some he
    have p := hX h1 hl hb
    cases hx : Nat.beq r1.1 0 with
    | false => rw [hx] at h2; injection h2 with h2; subst h2; exact p
    | true => rw [hx] at h2; exact p.trans (ih h2 (Nat.le_trans hl p.nle) p.hb) fun _ _ hh => hh
theorem acode_st (hF : StatF F) {k lim : Nat} : ∀ (c : Code) {st : St} {r : Ex × St}, acode P F k lim c st = some r → lim ≤ st.n → HB st.h st.n → Stat st.h r.2.h st.n r.2.n (fun id => lim ≤ id) := by
  intro c
  induction c with
  | skip => intro st r he hl hb; injection he with he; subst he; exact Stat.same hb
  | region id ops d => intro st r he hl hb; exact cRegion_st hF (d := d) he hl hb
  | seq x y ihx ihy =>
    intro st r he hl hb
    change (acode P F k lim x st).bind (fun r => bif Nat.beq r.1 0 then acode P F k lim y r.2 else some r) = some r at he
    obtain ⟨r1, h1, h2⟩ := bind_some he
    have p := ihx h1 hl hb
    cases hx : Nat.beq r1.1 0 with
    | false => rw [hx] at h2; injection h2 with h2; subst h2; exact p
    | true => rw [hx] at h2; exact p.trans (ihy h2 (Nat.le_trans hl p.nle) p.hb) fun _ _ hh => hh
  | cond c x y ihx ihy =>
    intro st r he hl hb
    change cCond c (acode P F k lim x) (acode P F k lim y) st = some r at he
    unfold cCond at he
    split at he
    · rename_i b hc
      cases b with
      | false => exact ihy he hl hb
      | true => exact ihx he hl hb
    · cases he
  | block id x ih =>
    intro st r he hl hb
    change (acode P F k lim x st).bind (fun r => bif Nat.beq r.1 (id + 2) then some (0, r.2) else some r) = some r at he
    obtain ⟨r1, h1, h2⟩ := bind_some he
    have p := ih h1 hl hb
    cases hx : Nat.beq r1.1 (id + 2) with
    | false => rw [hx] at h2; injection h2 with h2; subst h2; exact p
    | true => rw [hx] at h2; injection h2 with h2; subst h2; exact p
  | loop x ih =>
    intro st r he hl hb
    exact aloop_st (fun h1 h2 h3 => ih h1 h2 h3) k he hl hb
  | exit id => intro st r he hl hb; injection he with he; subst he; exact Stat.same hb
  | label l => intro st r he hl hb; injection he with he; subst he; exact Stat.same hb
  | ret => intro st r he hl hb; injection he with he; subst he; exact Stat.same hb
  | _ => intro st r he hl hb; cases he
end
end Go.Proofs.Ytkngdfbibffdcaa.Ce
