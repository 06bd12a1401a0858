/- The evaluator of closed calls: what a step changes of the evaluator's heap. No program in sight. -/
import Derived.Test.YtcdedegjpfemmaaCv
namespace Go.Proofs.Ytcdedegjpfemmaa.Ce
open Go.RowKit
set_option linter.unusedVariables false
set_option linter.unusedSimpArgs false

/-- what changes of the evaluator's heap -/
structure Stat (h h' : Hp) (n n' : Nat) (Wr : Nat → Prop) : Prop where
  nle : n ≤ n'
  keep : ∀ id, id < n → ¬ Wr id → h'.get id = h.get id
  dd : ∀ id, id < n → h.get id = none → h'.get id = none
  hb : HB h' n'

section
variable {h h' h2 : Hp} {n n' n2 : Nat} {Wr Wr' : Nat → Prop}
theorem Stat.same (hb : HB h n) : Stat h h n n Wr := ⟨Nat.le_refl _, fun _ _ _ => rfl, fun _ _ hd => hd, hb⟩
theorem Stat.fresh (hb : HB h n) (o : AObj) : Stat h (h.set n o) n (n + 1) Wr :=
  ⟨by omega, fun id hid _ => Hp.get_ne _ _ (by omega), fun id hid hd => by rw [Hp.get_ne _ _ (by omega)]; exact hd, hb.new⟩
theorem Stat.set {id : Nat} (hb : HB h n) (hal : h.get id ≠ none) (o : AObj) (hw : Wr id) : Stat h (h.set id o) n n Wr :=
  ⟨Nat.le_refl _, fun k hk hn => Hp.get_ne _ _ (fun e => hn (by rw [e]; exact hw)), fun k hk hd => by rw [Hp.get_ne _ _ (fun e => hal (by rw [← e]; exact hd))]; exact hd, hb.set_ (hb.lt hal)⟩
theorem Stat.app {id : Nat} (hb : HB h n) (hal : h.get id ≠ none) (o : AObj) (hw : Wr id) : Stat h ((h.set id none).set n o) n (n + 1) Wr := by
  have hid := hb.lt hal
  refine ⟨by omega, fun k hk hn => ?_, fun k hk hd => ?_, (hb.set_ hid).new⟩
  · rw [Hp.get_ne _ _ (by omega), Hp.get_ne _ _ (fun e => hn (by rw [e]; exact hw))]
  · rw [Hp.get_ne _ _ (by omega), Hp.get_ne _ _ (fun e => hal (by rw [← e]; exact hd))]; exact hd
theorem Stat.trans (p : Stat h h' n n' Wr) (q : Stat h' h2 n' n2 Wr') (hw : ∀ id, id < n → Wr' id → Wr id) : Stat h h2 n n2 Wr := by
  have h1 := p.nle
  have h2 := q.nle
  exact ⟨by omega, fun id hid hn => by rw [q.keep id (by omega) fun h3 => hn (hw id hid h3), p.keep id hid hn], fun id hid hd => q.dd id (by omega) (p.dd id hid hd), q.hb⟩
theorem Stat.weaken (p : Stat h h' n n' Wr) (hw : ∀ id, id < n → Wr id → Wr' id) : Stat h h' n n' Wr' :=
  ⟨p.nle, fun id hid hn => p.keep id hid fun h3 => hn (hw id hid h3), p.dd, p.hb⟩
end

abbrev StatE (h : Hp) (n : Nat) (e : Ef) : Prop := Stat h e.h n e.n (· ∈ e.wr) ∧ ∀ id ∈ e.wr, id < n

theorem bind_some {α β : Type} {o : Option α} {f : α → Option β} {b : β} (hh : o.bind f = some b) : ∃ a, o = some a ∧ f a = some b := by
  cases o with
  | none => cases hh
  | some a => exact ⟨a, rfl, hh⟩
theorem bif_some {β : Type} {c : Bool} {x : Option β} {b : β} (hh : (bif c then x else none) = some b) : c = true ∧ x = some b := by
  cases c with
  | false => cases hh
  | true => exact ⟨rfl, hh⟩
theorem rwOf_ne {h : Hp} {id : Nat} {r : Nat × List Value} (hr : rwOf h id = some r) : h.get id ≠ none := by rw [rwOf_some hr]; simp
theorem mapOf_ne {h : Hp} {id : Nat} {r : Array MapEntry × Nat} (hr : mapOf h id = some r) : h.get id ≠ none := by rw [mapOf_some hr]; simp

theorem none_ne {α : Type} {e : α} (hh : none = some e) : False := by cases hh
theorem bind_elim {C : Prop} {α β : Type} {o : Option α} {f : α → Option β} {b : β} (hh : o.bind f = some b) (k : ∀ a, o = some a → f a = some b → C) : C := by
  obtain ⟨a, h1, h2⟩ := bind_some hh
  exact k a h1 h2
theorem bif_elim {C : Prop} {β : Type} {c : Bool} {x : Option β} {b : β} (hh : (bif c then x else none) = some b) (k : c = true → x = some b → C) : C := k (bif_some hh).1 (bif_some hh).2
theorem some_inv {α : Type} {a b : α} (hh : some a = some b) : a = b := by injection hh

section
variable {P : Program} {F : CallE} {h : Hp} {n : Nat} {e : Ef}
theorem mV_st {v : Value} (he : mV v h n = some e) (hb : HB h n) : StatE h n e := by unfold mV at he; (repeat' (first | (with_reducible exact (none_ne he).elim) | (with_reducible refine (?_ : (_ : Ef) = _ → _) (some_inv he); clear he; intro he; subst he; first | exact ⟨Stat.same hb, by simp⟩ | exact ⟨Stat.fresh hb _, by simp⟩ | exact ⟨Stat.set hb (rwOf_ne ‹rwOf _ _ = some _›) _ (by simp), by simpa using hb.lt (rwOf_ne ‹rwOf _ _ = some _›)⟩ | exact ⟨Stat.set hb (mapOf_ne ‹mapOf _ _ = some _›) _ (by simp), by simpa using hb.lt (mapOf_ne ‹mapOf _ _ = some _›)⟩ | exact ⟨Stat.app hb (rwOf_ne ‹rwOf _ _ = some _›) _ (by simp), by simpa using hb.lt (rwOf_ne ‹rwOf _ _ = some _›)⟩) | (with_reducible refine bind_elim he ?_; clear he; intro _ _ he) | (with_reducible refine bif_elim he ?_; clear he; intro _ he) | (split at he)))
theorem mVO_st {v : Option Value} (he : mVO v h n = some e) (hb : HB h n) : StatE h n e := by
  cases v with
  | none => cases he
  | some v => exact mV_st he hb
theorem mBin_st {op : BinOp} {t : TypeId} {x y : Value} (he : mBin P op t x y h n = some e) (hb : HB h n) : StatE h n e := by unfold mBin mV at he; (repeat' (first | (with_reducible exact (none_ne he).elim) | (with_reducible refine (?_ : (_ : Ef) = _ → _) (some_inv he); clear he; intro he; subst he; first | exact ⟨Stat.same hb, by simp⟩ | exact ⟨Stat.fresh hb _, by simp⟩ | exact ⟨Stat.set hb (rwOf_ne ‹rwOf _ _ = some _›) _ (by simp), by simpa using hb.lt (rwOf_ne ‹rwOf _ _ = some _›)⟩ | exact ⟨Stat.set hb (mapOf_ne ‹mapOf _ _ = some _›) _ (by simp), by simpa using hb.lt (mapOf_ne ‹mapOf _ _ = some _›)⟩ | exact ⟨Stat.app hb (rwOf_ne ‹rwOf _ _ = some _›) _ (by simp), by simpa using hb.lt (rwOf_ne ‹rwOf _ _ = some _›)⟩) | (with_reducible refine bind_elim he ?_; clear he; intro _ _ he) | (with_reducible refine bif_elim he ?_; clear he; intro _ he) | (split at he)))
theorem mFunc_st {fn : Fn} {a b : List Value} (he : mFunc fn a b h n = some e) (hb : HB h n) : StatE h n e := by unfold mFunc mV at he; (repeat' (first | (with_reducible exact (none_ne he).elim) | (with_reducible refine (?_ : (_ : Ef) = _ → _) (some_inv he); clear he; intro he; subst he; first | exact ⟨Stat.same hb, by simp⟩ | exact ⟨Stat.fresh hb _, by simp⟩ | exact ⟨Stat.set hb (rwOf_ne ‹rwOf _ _ = some _›) _ (by simp), by simpa using hb.lt (rwOf_ne ‹rwOf _ _ = some _›)⟩ | exact ⟨Stat.set hb (mapOf_ne ‹mapOf _ _ = some _›) _ (by simp), by simpa using hb.lt (mapOf_ne ‹mapOf _ _ = some _›)⟩ | exact ⟨Stat.app hb (rwOf_ne ‹rwOf _ _ = some _›) _ (by simp), by simpa using hb.lt (rwOf_ne ‹rwOf _ _ = some _›)⟩) | (with_reducible refine bind_elim he ?_; clear he; intro _ _ he) | (with_reducible refine bif_elim he ?_; clear he; intro _ he) | (split at he)))
theorem mPick_st {c x y : Value} (he : mPick c x y h n = some e) (hb : HB h n) : StatE h n e := by unfold mPick mV at he; (repeat' (first | (with_reducible exact (none_ne he).elim) | (with_reducible refine (?_ : (_ : Ef) = _ → _) (some_inv he); clear he; intro he; subst he; first | exact ⟨Stat.same hb, by simp⟩ | exact ⟨Stat.fresh hb _, by simp⟩ | exact ⟨Stat.set hb (rwOf_ne ‹rwOf _ _ = some _›) _ (by simp), by simpa using hb.lt (rwOf_ne ‹rwOf _ _ = some _›)⟩ | exact ⟨Stat.set hb (mapOf_ne ‹mapOf _ _ = some _›) _ (by simp), by simpa using hb.lt (mapOf_ne ‹mapOf _ _ = some _›)⟩ | exact ⟨Stat.app hb (rwOf_ne ‹rwOf _ _ = some _›) _ (by simp), by simpa using hb.lt (rwOf_ne ‹rwOf _ _ = some _›)⟩) | (with_reducible refine bind_elim he ?_; clear he; intro _ _ he) | (with_reducible refine bif_elim he ?_; clear he; intro _ he) | (split at he)))
theorem mExtract_st {x : Value} {i : Nat} (he : mExtract x i h n = some e) (hb : HB h n) : StatE h n e := by
  unfold mExtract at he
  split at he
  · exact mVO_st he hb
  · cases he
theorem mLoad_st {t : TypeId} {x : Value} (he : mLoad P t x h n = some e) (hb : HB h n) : StatE h n e := by unfold mLoad at he; (repeat' (first | (with_reducible exact (none_ne he).elim) | (with_reducible refine (?_ : (_ : Ef) = _ → _) (some_inv he); clear he; intro he; subst he; first | exact ⟨Stat.same hb, by simp⟩ | exact ⟨Stat.fresh hb _, by simp⟩ | exact ⟨Stat.set hb (rwOf_ne ‹rwOf _ _ = some _›) _ (by simp), by simpa using hb.lt (rwOf_ne ‹rwOf _ _ = some _›)⟩ | exact ⟨Stat.set hb (mapOf_ne ‹mapOf _ _ = some _›) _ (by simp), by simpa using hb.lt (mapOf_ne ‹mapOf _ _ = some _›)⟩ | exact ⟨Stat.app hb (rwOf_ne ‹rwOf _ _ = some _›) _ (by simp), by simpa using hb.lt (rwOf_ne ‹rwOf _ _ = some _›)⟩) | (with_reducible refine bind_elim he ?_; clear he; intro _ _ he) | (with_reducible refine bif_elim he ?_; clear he; intro _ he) | (split at he)))
theorem mStore_st {lim : Nat} {t : TypeId} {x y : Value} (he : mStore P lim t x y h n = some e) (hb : HB h n) : StatE h n e := by unfold mStore at he; (repeat' (first | (with_reducible exact (none_ne he).elim) | (with_reducible refine (?_ : (_ : Ef) = _ → _) (some_inv he); clear he; intro he; subst he; first | exact ⟨Stat.same hb, by simp⟩ | exact ⟨Stat.fresh hb _, by simp⟩ | exact ⟨Stat.set hb (rwOf_ne ‹rwOf _ _ = some _›) _ (by simp), by simpa using hb.lt (rwOf_ne ‹rwOf _ _ = some _›)⟩ | exact ⟨Stat.set hb (mapOf_ne ‹mapOf _ _ = some _›) _ (by simp), by simpa using hb.lt (mapOf_ne ‹mapOf _ _ = some _›)⟩ | exact ⟨Stat.app hb (rwOf_ne ‹rwOf _ _ = some _›) _ (by simp), by simpa using hb.lt (rwOf_ne ‹rwOf _ _ = some _›)⟩) | (with_reducible refine bind_elim he ?_; clear he; intro _ _ he) | (with_reducible refine bif_elim he ?_; clear he; intro _ he) | (split at he)))
theorem mNew_st {t : Nat} {cs : List Value} (he : mNew P t cs h n = some e) (hb : HB h n) : StatE h n e := by unfold mNew at he; (repeat' (first | (with_reducible exact (none_ne he).elim) | (with_reducible refine (?_ : (_ : Ef) = _ → _) (some_inv he); clear he; intro he; subst he; first | exact ⟨Stat.same hb, by simp⟩ | exact ⟨Stat.fresh hb _, by simp⟩ | exact ⟨Stat.set hb (rwOf_ne ‹rwOf _ _ = some _›) _ (by simp), by simpa using hb.lt (rwOf_ne ‹rwOf _ _ = some _›)⟩ | exact ⟨Stat.set hb (mapOf_ne ‹mapOf _ _ = some _›) _ (by simp), by simpa using hb.lt (mapOf_ne ‹mapOf _ _ = some _›)⟩ | exact ⟨Stat.app hb (rwOf_ne ‹rwOf _ _ = some _›) _ (by simp), by simpa using hb.lt (rwOf_ne ‹rwOf _ _ = some _›)⟩) | (with_reducible refine bind_elim he ?_; clear he; intro _ _ he) | (with_reducible refine bif_elim he ?_; clear he; intro _ he) | (split at he)))
theorem mAlloc_st {t : Nat} (he : mAlloc P t h n = some e) (hb : HB h n) : StatE h n e := by
  obtain ⟨_, _, he⟩ := bind_some he
  exact mNew_st he hb
theorem mBuild_st {t : TypeId} {parts : List (Nat × Value)} (he : mBuild P t parts h n = some e) (hb : HB h n) : StatE h n e := by unfold mBuild mV at he; (repeat' (first | (with_reducible exact (none_ne he).elim) | (with_reducible refine (?_ : (_ : Ef) = _ → _) (some_inv he); clear he; intro he; subst he; first | exact ⟨Stat.same hb, by simp⟩ | exact ⟨Stat.fresh hb _, by simp⟩ | exact ⟨Stat.set hb (rwOf_ne ‹rwOf _ _ = some _›) _ (by simp), by simpa using hb.lt (rwOf_ne ‹rwOf _ _ = some _›)⟩ | exact ⟨Stat.set hb (mapOf_ne ‹mapOf _ _ = some _›) _ (by simp), by simpa using hb.lt (mapOf_ne ‹mapOf _ _ = some _›)⟩ | exact ⟨Stat.app hb (rwOf_ne ‹rwOf _ _ = some _›) _ (by simp), by simpa using hb.lt (rwOf_ne ‹rwOf _ _ = some _›)⟩) | (with_reducible refine bind_elim he ?_; clear he; intro _ _ he) | (with_reducible refine bif_elim he ?_; clear he; intro _ he) | (split at he)))
theorem mBuildSlice_st {t : TypeId} {len : Nat} {parts : List (Nat × Value)} (he : mBuildSlice P t len parts h n = some e) (hb : HB h n) : StatE h n e := by unfold mBuildSlice at he; (repeat' (first | (with_reducible exact (none_ne he).elim) | (with_reducible refine (?_ : (_ : Ef) = _ → _) (some_inv he); clear he; intro he; subst he; first | exact ⟨Stat.same hb, by simp⟩ | exact ⟨Stat.fresh hb _, by simp⟩ | exact ⟨Stat.set hb (rwOf_ne ‹rwOf _ _ = some _›) _ (by simp), by simpa using hb.lt (rwOf_ne ‹rwOf _ _ = some _›)⟩ | exact ⟨Stat.set hb (mapOf_ne ‹mapOf _ _ = some _›) _ (by simp), by simpa using hb.lt (mapOf_ne ‹mapOf _ _ = some _›)⟩ | exact ⟨Stat.app hb (rwOf_ne ‹rwOf _ _ = some _›) _ (by simp), by simpa using hb.lt (rwOf_ne ‹rwOf _ _ = some _›)⟩) | (with_reducible refine bind_elim he ?_; clear he; intro _ _ he) | (with_reducible refine bif_elim he ?_; clear he; intro _ he) | (split at he)))
theorem mMakeSlice_st {t : TypeId} {l c : Value} (he : mMakeSlice P t l c h n = some e) (hb : HB h n) : StatE h n e := by unfold mMakeSlice at he; (repeat' (first | (with_reducible exact (none_ne he).elim) | (with_reducible refine (?_ : (_ : Ef) = _ → _) (some_inv he); clear he; intro he; subst he; first | exact ⟨Stat.same hb, by simp⟩ | exact ⟨Stat.fresh hb _, by simp⟩ | exact ⟨Stat.set hb (rwOf_ne ‹rwOf _ _ = some _›) _ (by simp), by simpa using hb.lt (rwOf_ne ‹rwOf _ _ = some _›)⟩ | exact ⟨Stat.set hb (mapOf_ne ‹mapOf _ _ = some _›) _ (by simp), by simpa using hb.lt (mapOf_ne ‹mapOf _ _ = some _›)⟩ | exact ⟨Stat.app hb (rwOf_ne ‹rwOf _ _ = some _›) _ (by simp), by simpa using hb.lt (rwOf_ne ‹rwOf _ _ = some _›)⟩) | (with_reducible refine bind_elim he ?_; clear he; intro _ _ he) | (with_reducible refine bif_elim he ?_; clear he; intro _ he) | (split at he)))
theorem mSlice_st {t : TypeId} {x : Value} {lo hi : Option Value} (he : mSlice P t x lo hi h n = some e) (hb : HB h n) : StatE h n e := by unfold mSlice mV at he; (repeat' (first | (with_reducible exact (none_ne he).elim) | (with_reducible refine (?_ : (_ : Ef) = _ → _) (some_inv he); clear he; intro he; subst he; first | exact ⟨Stat.same hb, by simp⟩ | exact ⟨Stat.fresh hb _, by simp⟩ | exact ⟨Stat.set hb (rwOf_ne ‹rwOf _ _ = some _›) _ (by simp), by simpa using hb.lt (rwOf_ne ‹rwOf _ _ = some _›)⟩ | exact ⟨Stat.set hb (mapOf_ne ‹mapOf _ _ = some _›) _ (by simp), by simpa using hb.lt (mapOf_ne ‹mapOf _ _ = some _›)⟩ | exact ⟨Stat.app hb (rwOf_ne ‹rwOf _ _ = some _›) _ (by simp), by simpa using hb.lt (rwOf_ne ‹rwOf _ _ = some _›)⟩) | (with_reducible refine bind_elim he ?_; clear he; intro _ _ he) | (with_reducible refine bif_elim he ?_; clear he; intro _ he) | (split at he)))
theorem mFieldAddr_st {t : TypeId} {x : Value} {f : Nat} (he : mFieldAddr P t x f h n = some e) (hb : HB h n) : StatE h n e := by unfold mFieldAddr mV at he; (repeat' (first | (with_reducible exact (none_ne he).elim) | (with_reducible refine (?_ : (_ : Ef) = _ → _) (some_inv he); clear he; intro he; subst he; first | exact ⟨Stat.same hb, by simp⟩ | exact ⟨Stat.fresh hb _, by simp⟩ | exact ⟨Stat.set hb (rwOf_ne ‹rwOf _ _ = some _›) _ (by simp), by simpa using hb.lt (rwOf_ne ‹rwOf _ _ = some _›)⟩ | exact ⟨Stat.set hb (mapOf_ne ‹mapOf _ _ = some _›) _ (by simp), by simpa using hb.lt (mapOf_ne ‹mapOf _ _ = some _›)⟩ | exact ⟨Stat.app hb (rwOf_ne ‹rwOf _ _ = some _›) _ (by simp), by simpa using hb.lt (rwOf_ne ‹rwOf _ _ = some _›)⟩) | (with_reducible refine bind_elim he ?_; clear he; intro _ _ he) | (with_reducible refine bif_elim he ?_; clear he; intro _ he) | (split at he)))
theorem mIndexAddr_st {t : TypeId} {x y : Value} (he : mIndexAddr P t x y h n = some e) (hb : HB h n) : StatE h n e := by unfold mIndexAddr mV at he; (repeat' (first | (with_reducible exact (none_ne he).elim) | (with_reducible refine (?_ : (_ : Ef) = _ → _) (some_inv he); clear he; intro he; subst he; first | exact ⟨Stat.same hb, by simp⟩ | exact ⟨Stat.fresh hb _, by simp⟩ | exact ⟨Stat.set hb (rwOf_ne ‹rwOf _ _ = some _›) _ (by simp), by simpa using hb.lt (rwOf_ne ‹rwOf _ _ = some _›)⟩ | exact ⟨Stat.set hb (mapOf_ne ‹mapOf _ _ = some _›) _ (by simp), by simpa using hb.lt (mapOf_ne ‹mapOf _ _ = some _›)⟩ | exact ⟨Stat.app hb (rwOf_ne ‹rwOf _ _ = some _›) _ (by simp), by simpa using hb.lt (rwOf_ne ‹rwOf _ _ = some _›)⟩) | (with_reducible refine bind_elim he ?_; clear he; intro _ _ he) | (with_reducible refine bif_elim he ?_; clear he; intro _ he) | (split at he)))
theorem mIndex_st {t : TypeId} {x y : Value} (he : mIndex P t x y h n = some e) (hb : HB h n) : StatE h n e := by unfold mIndex mV at he; (repeat' (first | (with_reducible exact (none_ne he).elim) | (with_reducible refine (?_ : (_ : Ef) = _ → _) (some_inv he); clear he; intro he; subst he; first | exact ⟨Stat.same hb, by simp⟩ | exact ⟨Stat.fresh hb _, by simp⟩ | exact ⟨Stat.set hb (rwOf_ne ‹rwOf _ _ = some _›) _ (by simp), by simpa using hb.lt (rwOf_ne ‹rwOf _ _ = some _›)⟩ | exact ⟨Stat.set hb (mapOf_ne ‹mapOf _ _ = some _›) _ (by simp), by simpa using hb.lt (mapOf_ne ‹mapOf _ _ = some _›)⟩ | exact ⟨Stat.app hb (rwOf_ne ‹rwOf _ _ = some _›) _ (by simp), by simpa using hb.lt (rwOf_ne ‹rwOf _ _ = some _›)⟩) | (with_reducible refine bind_elim he ?_; clear he; intro _ _ he) | (with_reducible refine bif_elim he ?_; clear he; intro _ he) | (split at he)))
theorem mUn_st {op : UnOp} {x : Value} (he : mUn P op x h n = some e) (hb : HB h n) : StatE h n e := by unfold mUn mV at he; (repeat' (first | (with_reducible exact (none_ne he).elim) | (with_reducible refine (?_ : (_ : Ef) = _ → _) (some_inv he); clear he; intro he; subst he; first | exact ⟨Stat.same hb, by simp⟩ | exact ⟨Stat.fresh hb _, by simp⟩ | exact ⟨Stat.set hb (rwOf_ne ‹rwOf _ _ = some _›) _ (by simp), by simpa using hb.lt (rwOf_ne ‹rwOf _ _ = some _›)⟩ | exact ⟨Stat.set hb (mapOf_ne ‹mapOf _ _ = some _›) _ (by simp), by simpa using hb.lt (mapOf_ne ‹mapOf _ _ = some _›)⟩ | exact ⟨Stat.app hb (rwOf_ne ‹rwOf _ _ = some _›) _ (by simp), by simpa using hb.lt (rwOf_ne ‹rwOf _ _ = some _›)⟩) | (with_reducible refine bind_elim he ?_; clear he; intro _ _ he) | (with_reducible refine bif_elim he ?_; clear he; intro _ he) | (split at he)))
theorem mConvert_st {s d : TypeId} {x : Value} (he : mConvert P s d x h n = some e) (hb : HB h n) : StatE h n e := by
  unfold mConvert at he
  split at he
  · split at he
    · exact mVO_st he hb
    · cases he
  · (repeat' (first | (with_reducible exact (none_ne he).elim) | (with_reducible refine (?_ : (_ : Ef) = _ → _) (some_inv he); clear he; intro he; subst he; first | exact ⟨Stat.same hb, by simp⟩ | exact ⟨Stat.fresh hb _, by simp⟩ | exact ⟨Stat.set hb (rwOf_ne ‹rwOf _ _ = some _›) _ (by simp), by simpa using hb.lt (rwOf_ne ‹rwOf _ _ = some _›)⟩ | exact ⟨Stat.set hb (mapOf_ne ‹mapOf _ _ = some _›) _ (by simp), by simpa using hb.lt (mapOf_ne ‹mapOf _ _ = some _›)⟩ | exact ⟨Stat.app hb (rwOf_ne ‹rwOf _ _ = some _›) _ (by simp), by simpa using hb.lt (rwOf_ne ‹rwOf _ _ = some _›)⟩) | (with_reducible refine bind_elim he ?_; clear he; intro _ _ he) | (with_reducible refine bif_elim he ?_; clear he; intro _ he) | (split at he)))
  · unfold mV at he; (repeat' (first | (with_reducible exact (none_ne he).elim) | (with_reducible refine (?_ : (_ : Ef) = _ → _) (some_inv he); clear he; intro he; subst he; first | exact ⟨Stat.same hb, by simp⟩ | exact ⟨Stat.fresh hb _, by simp⟩ | exact ⟨Stat.set hb (rwOf_ne ‹rwOf _ _ = some _›) _ (by simp), by simpa using hb.lt (rwOf_ne ‹rwOf _ _ = some _›)⟩ | exact ⟨Stat.set hb (mapOf_ne ‹mapOf _ _ = some _›) _ (by simp), by simpa using hb.lt (mapOf_ne ‹mapOf _ _ = some _›)⟩ | exact ⟨Stat.app hb (rwOf_ne ‹rwOf _ _ = some _›) _ (by simp), by simpa using hb.lt (rwOf_ne ‹rwOf _ _ = some _›)⟩) | (with_reducible refine bind_elim he ?_; clear he; intro _ _ he) | (with_reducible refine bif_elim he ?_; clear he; intro _ he) | (split at he)))
  · (repeat' (first | (with_reducible exact (none_ne he).elim) | (with_reducible refine (?_ : (_ : Ef) = _ → _) (some_inv he); clear he; intro he; subst he; first | exact ⟨Stat.same hb, by simp⟩ | exact ⟨Stat.fresh hb _, by simp⟩ | exact ⟨Stat.set hb (rwOf_ne ‹rwOf _ _ = some _›) _ (by simp), by simpa using hb.lt (rwOf_ne ‹rwOf _ _ = some _›)⟩ | exact ⟨Stat.set hb (mapOf_ne ‹mapOf _ _ = some _›) _ (by simp), by simpa using hb.lt (mapOf_ne ‹mapOf _ _ = some _›)⟩ | exact ⟨Stat.app hb (rwOf_ne ‹rwOf _ _ = some _›) _ (by simp), by simpa using hb.lt (rwOf_ne ‹rwOf _ _ = some _›)⟩) | (with_reducible refine bind_elim he ?_; clear he; intro _ _ he) | (with_reducible refine bif_elim he ?_; clear he; intro _ he) | (split at he)))
  · unfold mV at he; (repeat' (first | (with_reducible exact (none_ne he).elim) | (with_reducible refine (?_ : (_ : Ef) = _ → _) (some_inv he); clear he; intro he; subst he; first | exact ⟨Stat.same hb, by simp⟩ | exact ⟨Stat.fresh hb _, by simp⟩ | exact ⟨Stat.set hb (rwOf_ne ‹rwOf _ _ = some _›) _ (by simp), by simpa using hb.lt (rwOf_ne ‹rwOf _ _ = some _›)⟩ | exact ⟨Stat.set hb (mapOf_ne ‹mapOf _ _ = some _›) _ (by simp), by simpa using hb.lt (mapOf_ne ‹mapOf _ _ = some _›)⟩ | exact ⟨Stat.app hb (rwOf_ne ‹rwOf _ _ = some _›) _ (by simp), by simpa using hb.lt (rwOf_ne ‹rwOf _ _ = some _›)⟩) | (with_reducible refine bind_elim he ?_; clear he; intro _ _ he) | (with_reducible refine bif_elim he ?_; clear he; intro _ he) | (split at he)))
  · cases he
theorem mMakeMap_st (he : mMakeMap h n = some e) (hb : HB h n) : StatE h n e := by unfold mMakeMap at he; (repeat' (first | (with_reducible exact (none_ne he).elim) | (with_reducible refine (?_ : (_ : Ef) = _ → _) (some_inv he); clear he; intro he; subst he; first | exact ⟨Stat.same hb, by simp⟩ | exact ⟨Stat.fresh hb _, by simp⟩ | exact ⟨Stat.set hb (rwOf_ne ‹rwOf _ _ = some _›) _ (by simp), by simpa using hb.lt (rwOf_ne ‹rwOf _ _ = some _›)⟩ | exact ⟨Stat.set hb (mapOf_ne ‹mapOf _ _ = some _›) _ (by simp), by simpa using hb.lt (mapOf_ne ‹mapOf _ _ = some _›)⟩ | exact ⟨Stat.app hb (rwOf_ne ‹rwOf _ _ = some _›) _ (by simp), by simpa using hb.lt (rwOf_ne ‹rwOf _ _ = some _›)⟩) | (with_reducible refine bind_elim he ?_; clear he; intro _ _ he) | (with_reducible refine bif_elim he ?_; clear he; intro _ he) | (split at he)))
theorem mLookup_st {t : TypeId} {m k : Value} {ok : Bool} (he : mLookup P t m k ok h n = some e) (hb : HB h n) : StatE h n e := by unfold mLookup at he; (repeat' (first | (with_reducible exact (none_ne he).elim) | (with_reducible refine (?_ : (_ : Ef) = _ → _) (some_inv he); clear he; intro he; subst he; first | exact ⟨Stat.same hb, by simp⟩ | exact ⟨Stat.fresh hb _, by simp⟩ | exact ⟨Stat.set hb (rwOf_ne ‹rwOf _ _ = some _›) _ (by simp), by simpa using hb.lt (rwOf_ne ‹rwOf _ _ = some _›)⟩ | exact ⟨Stat.set hb (mapOf_ne ‹mapOf _ _ = some _›) _ (by simp), by simpa using hb.lt (mapOf_ne ‹mapOf _ _ = some _›)⟩ | exact ⟨Stat.app hb (rwOf_ne ‹rwOf _ _ = some _›) _ (by simp), by simpa using hb.lt (rwOf_ne ‹rwOf _ _ = some _›)⟩) | (with_reducible refine bind_elim he ?_; clear he; intro _ _ he) | (with_reducible refine bif_elim he ?_; clear he; intro _ he) | (split at he)))
theorem mMapUpdate_st {lim : Nat} {t : TypeId} {m k x : Value} (he : mMapUpdate P lim t m k x h n = some e) (hb : HB h n) : StatE h n e := by unfold mMapUpdate at he; (repeat' (first | (with_reducible exact (none_ne he).elim) | (with_reducible refine (?_ : (_ : Ef) = _ → _) (some_inv he); clear he; intro he; subst he; first | exact ⟨Stat.same hb, by simp⟩ | exact ⟨Stat.fresh hb _, by simp⟩ | exact ⟨Stat.set hb (rwOf_ne ‹rwOf _ _ = some _›) _ (by simp), by simpa using hb.lt (rwOf_ne ‹rwOf _ _ = some _›)⟩ | exact ⟨Stat.set hb (mapOf_ne ‹mapOf _ _ = some _›) _ (by simp), by simpa using hb.lt (mapOf_ne ‹mapOf _ _ = some _›)⟩ | exact ⟨Stat.app hb (rwOf_ne ‹rwOf _ _ = some _›) _ (by simp), by simpa using hb.lt (rwOf_ne ‹rwOf _ _ = some _›)⟩) | (with_reducible refine bind_elim he ?_; clear he; intro _ _ he) | (with_reducible refine bif_elim he ?_; clear he; intro _ he) | (split at he)))
theorem mLen_st {t : TypeId} {x : Value} (he : mLen P t x h n = some e) (hb : HB h n) : StatE h n e := by unfold mLen mV at he; (repeat' (first | (with_reducible exact (none_ne he).elim) | (with_reducible refine (?_ : (_ : Ef) = _ → _) (some_inv he); clear he; intro he; subst he; first | exact ⟨Stat.same hb, by simp⟩ | exact ⟨Stat.fresh hb _, by simp⟩ | exact ⟨Stat.set hb (rwOf_ne ‹rwOf _ _ = some _›) _ (by simp), by simpa using hb.lt (rwOf_ne ‹rwOf _ _ = some _›)⟩ | exact ⟨Stat.set hb (mapOf_ne ‹mapOf _ _ = some _›) _ (by simp), by simpa using hb.lt (mapOf_ne ‹mapOf _ _ = some _›)⟩ | exact ⟨Stat.app hb (rwOf_ne ‹rwOf _ _ = some _›) _ (by simp), by simpa using hb.lt (rwOf_ne ‹rwOf _ _ = some _›)⟩) | (with_reducible refine bind_elim he ?_; clear he; intro _ _ he) | (with_reducible refine bif_elim he ?_; clear he; intro _ he) | (split at he)))
theorem mMax_st {b : Bool} {x y : Value} (he : mMax b x y h n = some e) (hb : HB h n) : StatE h n e := by unfold mMax mV at he; (repeat' (first | (with_reducible exact (none_ne he).elim) | (with_reducible refine (?_ : (_ : Ef) = _ → _) (some_inv he); clear he; intro he; subst he; first | exact ⟨Stat.same hb, by simp⟩ | exact ⟨Stat.fresh hb _, by simp⟩ | exact ⟨Stat.set hb (rwOf_ne ‹rwOf _ _ = some _›) _ (by simp), by simpa using hb.lt (rwOf_ne ‹rwOf _ _ = some _›)⟩ | exact ⟨Stat.set hb (mapOf_ne ‹mapOf _ _ = some _›) _ (by simp), by simpa using hb.lt (mapOf_ne ‹mapOf _ _ = some _›)⟩ | exact ⟨Stat.app hb (rwOf_ne ‹rwOf _ _ = some _›) _ (by simp), by simpa using hb.lt (rwOf_ne ‹rwOf _ _ = some _›)⟩) | (with_reducible refine bind_elim he ?_; clear he; intro _ _ he) | (with_reducible refine bif_elim he ?_; clear he; intro _ he) | (split at he)))
theorem mAppendTo_st {lim el size m : Nat} {s : Value} {news : List Value} {rd : List Nat} (he : mAppendTo lim el size s m news rd h n = some e) (hb : HB h n) : StatE h n e := by
  unfold mAppendTo mV at he
  split at he
  · cases hm : Nat.beq m 0 with
    | true => rw [hm] at he; injection he with he; subst he; exact ⟨Stat.same hb, by simp⟩
    | false => rw [hm] at he; injection he with he; subst he; exact ⟨Stat.fresh hb _, by simp⟩
  · (repeat' (first | (with_reducible exact (none_ne he).elim) | (with_reducible refine (?_ : (_ : Ef) = _ → _) (some_inv he); clear he; intro he; subst he; first | exact ⟨Stat.same hb, by simp⟩ | exact ⟨Stat.fresh hb _, by simp⟩ | exact ⟨Stat.set hb (rwOf_ne ‹rwOf _ _ = some _›) _ (by simp), by simpa using hb.lt (rwOf_ne ‹rwOf _ _ = some _›)⟩ | exact ⟨Stat.set hb (mapOf_ne ‹mapOf _ _ = some _›) _ (by simp), by simpa using hb.lt (mapOf_ne ‹mapOf _ _ = some _›)⟩ | exact ⟨Stat.app hb (rwOf_ne ‹rwOf _ _ = some _›) _ (by simp), by simpa using hb.lt (rwOf_ne ‹rwOf _ _ = some _›)⟩) | (with_reducible refine bind_elim he ?_; clear he; intro _ _ he) | (with_reducible refine bif_elim he ?_; clear he; intro _ he) | (split at he)))
  · cases he
theorem mAppend_st {lim : Nat} {t t2 : TypeId} {s x : Value} (he : mAppend P lim t t2 s x h n = some e) (hb : HB h n) : StatE h n e := by
  unfold mAppend at he
  obtain ⟨_, _, he⟩ := bind_some he
  split at he
  · obtain ⟨_, he⟩ := bif_some he
    obtain ⟨_, _, he⟩ := bind_some he
    obtain ⟨_, he⟩ := bif_some he
    exact mAppendTo_st he hb
  · cases he
theorem mCopy_st {lim : Nat} {t : TypeId} {d s : Value} (he : mCopy P lim t d s h n = some e) (hb : HB h n) : StatE h n e := by unfold mCopy at he; (repeat' (first | (with_reducible exact (none_ne he).elim) | (with_reducible refine (?_ : (_ : Ef) = _ → _) (some_inv he); clear he; intro he; subst he; first | exact ⟨Stat.same hb, by simp⟩ | exact ⟨Stat.fresh hb _, by simp⟩ | exact ⟨Stat.set hb (rwOf_ne ‹rwOf _ _ = some _›) _ (by simp), by simpa using hb.lt (rwOf_ne ‹rwOf _ _ = some _›)⟩ | exact ⟨Stat.set hb (mapOf_ne ‹mapOf _ _ = some _›) _ (by simp), by simpa using hb.lt (mapOf_ne ‹mapOf _ _ = some _›)⟩ | exact ⟨Stat.app hb (rwOf_ne ‹rwOf _ _ = some _›) _ (by simp), by simpa using hb.lt (rwOf_ne ‹rwOf _ _ = some _›)⟩) | (with_reducible refine bind_elim he ?_; clear he; intro _ _ he) | (with_reducible refine bif_elim he ?_; clear he; intro _ he) | (split at he)))
theorem mBuiltin_st {lim : Nat} {b : Builtin} {args : List Value} {ts : List TypeId} (he : mBuiltin P lim b args ts h n = some e) (hb : HB h n) : StatE h n e := by
  unfold mBuiltin at he
  split at he
  · exact mLen_st he hb
  · exact mAppend_st he hb
  · exact mCopy_st he hb
  · exact mMax_st he hb
  · exact mMax_st he hb
  · cases he

/-- the same of a call -/
def StatF (F : CallE) : Prop := ∀ cl g args h n v h' n', F cl g args h n = some (v, h', n') → cl ≤ n → HB h n → Stat h h' n n' (fun id => cl ≤ id)

theorem aop_st (hF : StatF F) {lim cl : Nat} {o : Op} {ρ : Operand → Value} (he : aop o P F lim cl ρ h n = some e) (hcl : cl ≤ n) (hb : HB h n) :
    Stat h e.h n e.n (fun id => id ∈ e.wr ∨ isCall o = true ∧ cl ≤ id) ∧ ∀ id ∈ e.wr, id < n := by
  have wk : StatE h n e → Stat h e.h n e.n (fun id => id ∈ e.wr ∨ isCall o = true ∧ cl ≤ id) ∧ ∀ id ∈ e.wr, id < n := fun p => ⟨p.1.weaken fun _ _ hh => .inl hh, p.2⟩
  cases o with
  | move x => exact wk (mV_st he hb)
  | assign x => exact wk (mV_st he hb)
  | pick c a b => exact wk (mPick_st he hb)
  | alloc t => exact wk (mAlloc_st he hb)
  | box t x => exact wk (mNew_st he hb)
  | build t parts => exact wk (mBuild_st he hb)
  | buildSlice t len parts => exact wk (mBuildSlice_st he hb)
  | load t x => exact wk (mLoad_st he hb)
  | store t x y => exact wk (mStore_st he hb)
  | binOp op t x y yt => exact wk (mBin_st he hb)
  | unOp op t x => exact wk (mUn_st he hb)
  | convert src dst x => exact wk (mConvert_st he hb)
  | makeMap t r =>
    cases r with
    | none => exact wk (mMakeMap_st he hb)
    | some r => cases he
  | makeSlice t l c => exact wk (mMakeSlice_st he hb)
  | slice t x lo hi mx =>
    cases mx with
    | some m => cases he
    | none => exact wk (mSlice_st he hb)
  | fieldAddr s x f => exact wk (mFieldAddr_st he hb)
  | indexAddr t x ix => exact wk (mIndexAddr_st he hb)
  | index t x ix => exact wk (mIndex_st he hb)
  | lookup t m k ok => exact wk (mLookup_st he hb)
  | mapUpdate t m k x => exact wk (mMapUpdate_st he hb)
  | extract x i => exact wk (mExtract_st he hb)
  | makeFunc fn first captured => exact wk (mFunc_st he hb)
  | call c =>
    obtain ⟨callee, ⟨args⟩, ⟨ts⟩⟩ := c
    cases callee with
    | value f =>
      obtain ⟨g, first, cap, x, v, h', n', -, -, -, hr, rfl⟩ := callF_some (P := P) he
      exact ⟨(hF cl g _ h n v h' n' hr hcl hb).weaken fun id _ hh => .inr ⟨rfl, hh⟩, by simp⟩
    | invoke r m => cases he
    | builtin b => exact wk (mBuiltin_st he hb)
  | _ => cases he
end
end Go.Proofs.Ytcdedegjpfemmaa.Ce
