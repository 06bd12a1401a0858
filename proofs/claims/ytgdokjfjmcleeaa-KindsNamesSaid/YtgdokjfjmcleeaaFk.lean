/- An append whose old slice is read again: both cases, one behind the other. No program in sight. -/
import Derived.Test.YtgdokjfjmcleeaaCut
import Derived.Test.YtgdokjfjmcleeaaSn
namespace Go.Proofs.Ytgdokjfjmcleeaa.Ce
open Go.RowKit
set_option linter.unusedVariables false
set_option linter.unusedSimpArgs false

section
variable {P : Program} {φ : Mp} {h : Hp} {n : Nat} {w : World} {S : Nat}
theorem app_fork {t ty e s m id len c0 : Nat} {x s' x' : Value} {news cells : List Value} {rd : List Nat}
    (hT : ApT P t e s) (hs : VC φ (.slice (some ⟨id, 0, none⟩) len c0) s') (hx : VC φ x x') (hsrc : srcOf s h x = some (m, news, rd)) (hm0 : m ≠ 0) (hcok : news.all cok = true) (hm6 : m ≤ 1000000) (hl6 : len ≤ 1000000)
    (hr : rwOf h id = some (e, cells)) (hcs : len * s ≤ cells.length) (m0 : MemR P φ h n w S) :
    ∃ v' w', (Builtin.append_ #[t, t] ty #[s', x']).run P w = .ok v' w' ∧
      ((VC φ (.slice (some ⟨id, 0, none⟩) (len + m) (len + m)) v' ∧ PO P φ φ h (h.set id (.row e false (cells.take (len * s) ++ news))) n n (· = id) w w' S) ∨
        ∃ φ', VC φ' (.slice (some ⟨n, 0, none⟩) (len + m) (len + m)) v' ∧ PO P φ φ' h (h.set n (.row e false (cells.take (len * s) ++ news))) n (n + 1) (fun _ => False) w w' S) := by
  obtain ⟨h1, ⟨z, h2, h3⟩, h4, h5, h6⟩ := hT
  obtain ⟨i, v, hi, hiz, hvz, hf⟩ := zero_of h2
  have hu := elem_of h1
  obtain rfl : i.size = s := by
    unfold tySize at h4
    rw [hi] at h4
    injection h4
  rw [Nat.blt_eq] at h5
  have hby : i.bytes ≤ 1000 := by
    rw [Nat.ble_eq] at h6
    unfold Program.bytesOf at h6
    rw [hi] at h6
    exact h6
  have hvs : v.cells.size = i.size := by rw [← h3, ← hvz]; simp
  obtain ⟨g, c, j', c', hp, rfl, hn, hm, hj, hz0⟩ := hs
  obtain ⟨ho, hSg0, hgs0⟩ := m0.obj id g c hp
  rw [rwOf_some hr] at ho
  obtain ⟨ds0, fz, hg0, hv0, hrw⟩ := ho
  obtain ⟨hcm0, rfl, sz, hsz, hds0⟩ := hrw rfl
  obtain ⟨rfl, rfl⟩ := hz0 rfl hcm0
  rw [h4] at hsz
  injection hsz with hsz
  subst hsz
  have hal : h.get id ≠ none := by rw [rwOf_some hr]; simp
  have hid : id < n := m0.hb.lt hal
  have hφ : φ n = none := m0.fn n (Nat.le_refl _)
  have hl0 : cells.length = (ds0.toList.take cells.length).length := hv0.len
  have hl1 : (ds0.toList.take cells.length).length ≤ ds0.size := by rw [← ds0.length_toList]; exact List.length_take_le' _ _
  have hle0 : len * i.size ≤ ds0.size := by omega
  have hvt : VL (VA φ) (cells.take (len * i.size)) (ds0.toList.take (len * i.size)) := by
    have := hv0.take_ (len * i.size)
    rwa [List.take_take, Nat.min_eq_left hcs] at this
  rcases src_of (w := w) hx hsrc (fun id g c _ hp => (m0.obj id g c hp).1) with ⟨-, h0, -⟩ | ⟨g1, j1, c1, ds, rfl, hv, hl, hcell⟩
  · exact absurd h0 hm0
  have hone : ∀ u ∈ ds, u.oneCell' = true := hv.one_cells hcok
  have hlo : (ds0.toList.take (len * i.size)).length = len * i.size := by rw [List.length_take, Array.length_toList]; omega
  by_cases hroom : len + m ≤ c'
  · have hown0 : w.ownsRow S e i.size (.slice (some ⟨g, 0, none⟩) len c') len (ds0.toList.take (len * i.size)) :=
      ⟨hlo, .inr ⟨g, c', ds0, rfl, hSg0, hg0, hn, hm, hds0, rfl⟩⟩
    obtain ⟨w', hrun, hown, hgr⟩ := run_append_fits (P := P) w S t ty e i i.size hu hi rfl g len c' _ hown0 ⟨g1, j1, none⟩ m c1 ds hl (fun k u hk => by rw [add_none]; exact hcell k u hk) hone hroom
    obtain ⟨g', cap, cur, heq, hSg, hg', hmc, hcm, hcs2, htk⟩ := own_ex hown (by simp)
    injection heq with e1 e2 e3
    injection e1 with e1
    injection e1 with e1
    subst e1; subst e3
    have hlt' : g < w'.heap.size := Nat.lt_of_lt_of_le hgs0 hgr.size
    refine ⟨_, w', hrun, .inl ⟨⟨g, c', 0, c', hp, rfl, hmc, hcm, .inl rfl, fun _ _ => ⟨rfl, rfl⟩⟩, ⟨fun _ _ => rfl, fun k hk hh => hgr.block k hk (fun hk2 => ?_), fun k hk hne => Hp.get_ne _ _ hne, ?_, fun k g2 c2 h1 h2 => by omega, fun k k' g2 c2 c3 h1 h2 h3 => by omega, fun k hk hd => ?_, fun k hk hnn => ?_, Nat.le_refl _, hgr.size, hgr.os, hgr.tape, hgr.output⟩⟩⟩
    · injection hk2 with hk2
      subst hk2
      exact hh id c' hid rfl hal hp
    · intro k g2 c2 hh hp2
      rcases hh with ⟨hk, rfl⟩ | ⟨hh1, hh2⟩
      · rw [hp] at hp2
        injection hp2 with hp2
        injection hp2 with hp3 hp4
        subst hp3; subst hp4
        rw [Hp.get_same]
        refine ⟨⟨cur, (0, 0), hg', ?_, fun _ => ⟨hcm, rfl, i.size, h4, hcs2⟩⟩, hSg0, hlt'⟩
        have hll := (hvt.app hv).len
        have hsum : (ds0.toList.take (len * i.size) ++ ds).length = (len + m) * i.size := hown.1
        rw [hll, hsum, htk]
        exact hvt.app hv
      · omega
    · have hkid : k ≠ id := fun e => hal (by rw [← e]; exact hd)
      rw [Hp.get_ne _ _ hkid]
      exact hd
    · have hkid : k ≠ id := fun e => by rw [e, hp] at hnn; cases hnn
      rw [Hp.get_ne _ _ hkid]
  · have hmx : len + m ≤ maxLen := by unfold maxLen; omega
    have hrun := run_append_grow (P := P) w t ty e i v hu hi hiz ⟨g, 0, none⟩ len c' (ds0.toList.take (len * i.size)) hlo (fun k u hk => by
        rw [add_none, cell_of_row w g _ ds0 e (0, 0) hg0]
        rw [List.getElem?_take] at hk
        split at hk
        · simpa using hk
        · cases hk) ⟨g1, j1, none⟩ m c1 ds hl (fun k u hk => by rw [add_none]; exact hcell k u hk) (by omega) (by omega)
        (growslice_fits (by omega) (by have : (len + m) * i.bytes ≤ 2000000 * 1000 := Nat.mul_le_mul (by omega) hby
                                       omega))
    have hge := grownCap_ge w (len + m) c' e
    have hcm := grownCap_le_maxLen w (len + m) c' e hmx
    obtain ⟨cap, hcap⟩ : ∃ cap, grownCap w (len + m) c' e = cap := ⟨_, rfl⟩
    rw [hcap] at hrun hge hcm
    obtain ⟨cur, hcur⟩ : ∃ cur, cur = ((ds0.toList.take (len * i.size)).toArray ++ ds.toArray ++ Builtin.zeroCells v.cells (cap - (len + m))) := ⟨_, rfl⟩
    rw [← hcur] at hrun
    have hcsz : cur.size = cap * i.size := by
      rw [hcur]
      simp only [Array.size_append, List.size_toArray, size_zeroCells, hvs, hlo, hl, ← Nat.add_mul]
      congr 1
      omega
    have hlen : (ds0.toList.take (len * i.size) ++ ds).length = (len + m) * i.size := by rw [List.length_append, hlo, hl, Nat.add_mul]
    have htk : cur.toList.take ((len + m) * i.size) = ds0.toList.take (len * i.size) ++ ds := by
      rw [hcur]
      simp only [Array.toList_append, List.append_assoc]
      rw [← List.append_assoc, ← hlen]
      exact List.take_left
    refine ⟨_, _, hrun, .inr ⟨upd φ n (w.heap.size, cap), ⟨w.heap.size, cap, 0, cap, upd_same _ _ _, rfl, hge, hcm, .inl rfl, fun _ _ => ⟨rfl, rfl⟩⟩, ⟨fun k hk => upd_ne _ _ (by omega), fun k hk _ => heap_alloc_old w.drew _ hk, fun k hk _ => Hp.get_ne _ _ (by omega), ?_, ?_, fun k k' g2 c2 c3 h1 h2 h3 => by omega, fun k hk hd => by rw [Hp.get_ne _ _ (by omega)]; exact hd, fun k hk _ => Hp.get_ne _ _ (by omega), by omega, by simp, rfl, rfl, rfl⟩⟩⟩
    · intro k g2 c2 hh hp2
      rcases hh with ⟨_, hh⟩ | ⟨hh1, hh2⟩
      · exact hh.elim
      · obtain rfl : k = n := by omega
        rw [upd_same] at hp2
        injection hp2 with hp2
        injection hp2 with hp3 hp4
        subst hp3; subst hp4
        rw [Hp.get_same]
        refine ⟨⟨cur, (0, 0), heap_alloc_new w.drew _, ?_, fun _ => ⟨hcm, rfl, i.size, h4, hcsz⟩⟩, m0.hS, by simp⟩
        have hll := (hvt.app hv).len
        rw [hll, hlen, htk]
        exact (hvt.app hv).imp_ fun _ _ => VA.mono (upd_le _ hφ)
    · intro k g2 c2 h1 h2 hp2
      obtain rfl : k = n := by omega
      rw [upd_same] at hp2
      injection hp2 with hp2
      injection hp2 with hp3 hp4
      exact .inl (by omega)

theorem MemR.bump (m : MemR P φ h n w S) : MemR P φ h (n + 1) w S := ⟨fun id hid => m.fn id (by omega), m.obj, m.inj, fun id hid => m.hb id (by omega), m.hS⟩
theorem MemR.kill (m : MemR P φ h n w S) (id : Nat) : MemR P φ (h.set id none) n w S := by
  refine ⟨m.fn, fun k g c hp => ?_, fun k k' g c c' hk hp hp' => ?_, fun k hk => ?_, m.hS⟩
  · rw [Hp.get_set]
    have := m.obj k g c hp
    split
    · exact ⟨trivial, this.2⟩
    · exact this
  · rw [Hp.get_set]
    split
    · rfl
    · exact m.inj k k' g c c' hk hp hp'
  · rw [Hp.get_set]
    split
    · rfl
    · exact m.hb k hk
section
variable {φ' : Mp} {h' : Hp} {n' : Nat} {w' : World} {Wr : Nat → Prop}
theorem Fr.bump (f : Fr φ φ' h h' n n' Wr w w') (m : MemR P φ' h' n' w' S) : Fr φ φ' h h' n (n' + 1) Wr w w' := by
  have hn := f.nle
  refine ⟨fun id hid => f.ext id (by omega), f.fr, f.keep, fun id g c h1 h2 hp => ?_, fun id id' g c c' h1 h2 h3 hp hp' => ?_, f.dd, f.un, by omega, f.sz, f.os, f.tape, f.output⟩
  · by_cases e : id < n'
    · exact f.new id g c h1 e hp
    · rw [m.fn id (by omega)] at hp
      cases hp
  · by_cases e : id' < n'
    · exact f.injn id id' g c c' h1 h2 e hp hp'
    · rw [m.fn id' (by omega)] at hp'
      cases hp'
theorem Fr.kill (f : Fr φ φ' h h' n n' Wr w w') {id : Nat} (hid : n ≤ id) : Fr φ φ' h (h'.set id none) n n' Wr w w' := by
  refine ⟨f.ext, f.fr, fun k hk hw => ?_, fun k g c h1 h2 hp => ?_, fun k k' g c c' h1 h2 h3 hp hp' => ?_, fun k hk hd => ?_, fun k hk hd => ?_, f.nle, f.sz, f.os, f.tape, f.output⟩
  · rw [Hp.get_ne _ _ (by omega)]; exact f.keep k hk hw
  · rcases f.new k g c h1 h2 hp with h3 | ⟨id0, c0, h3, h4, h5, h6, h7⟩
    · exact .inl h3
    · exact .inr ⟨id0, c0, h3, h4, h5, h6, by rw [Hp.get_ne _ _ (by omega)]; exact h7⟩
  · rw [Hp.get_set]
    split
    · rfl
    · exact f.injn k k' g c c' h1 h2 h3 hp hp'
  · rw [Hp.get_ne _ _ (by omega)]; exact f.dd k hk hd
  · rw [Hp.get_ne _ _ (by omega)]; exact f.un k hk hd
end
/-- a temporary and a block that are looked at no more -/
noncomputable def norm (k : Tmp) (id : Nat) (st : St) : St := ⟨put st.a (some k) wild, st.h.set id none, st.n⟩
theorem TR.wild {a : List Value} {t : Array Value} (ht : TR φ a t) (k : Tmp) : TR φ (Ce.put a (some k) Ce.wild) t := by
  refine ⟨by rw [put_len]; exact ht.1, fun j => ?_⟩
  by_cases e : k = j
  · subst e
    unfold Ce.put
    simp only [lset_eq, lget_eq, List.getElem?_set]
    split
    · split
      · exact VC.wild _
      · rename_i h1 h2
        have := ht.2 k
        rw [lget_eq, List.getElem?_eq_none (by omega)] at this
        exact this
    · rename_i hh; exact absurd trivial hh
  · rw [put_ne (t := j) (d := some k) _ (fun h => by injection h with h; exact e h)]
    exact ht.2 j
variable {F : CallE}
theorem region_fork (hF : SoundF P F) {lim rid : Nat} {ops : Array Oper} {l1 l2 : List Oper} {dst : Tmp} {a b : Operand} {t ty e s m id len c0 : Nat} {pos : String} {af : Array Edge} {gd : Option (Nat × Bool)} {news cells : List Value} {rd : List Nat} {st stB stD : St}
    (hsp : ops.toList = l1 ++ ⟨some dst, .call ⟨.builtin .append, #[a, b], #[t, t]⟩, ty, pos, af, gd⟩ :: l2)
    (h1 : aops P F lim lim ops.toList l1 st = some stB)
    (hw : wants ops.toList ⟨some dst, .call ⟨.builtin .append, #[a, b], #[t, t]⟩, ty, pos, af, gd⟩ stB.a = some true)
    (hT : ApT P t e s) (hs : lev stB.a a = .slice (some ⟨id, 0, none⟩) len c0) (hsrc : srcOf s stB.h (lev stB.a b) = some (m, news, rd)) (hm0 : m ≠ 0) (hcok : news.all cok = true) (hm6 : m ≤ 1000000) (hl6 : len ≤ 1000000)
    (hr : rwOf stB.h id = some (e, cells)) (hcs : len * s ≤ cells.length) (hlim : lim ≤ id)
    (hA : (aops P F lim lim ops.toList l2 ⟨put stB.a (some dst) (.slice (some ⟨id, 0, none⟩) (len + m) (len + m)), stB.h.set id (.row e false (cells.take (len * s) ++ news)), stB.n + 1⟩).map (norm dst stB.n) = some stD)
    (hB : (aops P F lim lim ops.toList l2 ⟨put stB.a (some dst) (.slice (some ⟨stB.n, 0, none⟩) (len + m) (len + m)), stB.h.set stB.n (.row e false (cells.take (len * s) ++ news)), stB.n + 1⟩).map (norm dst stB.n) = some stD)
    {act : Act} {Q : Exit → Act → World → Prop} (hl : lim ≤ st.n) (ht : TR φ st.a act.tmps) (mm : MemR P φ st.h st.n w S)
    (hQ : ∀ a' w' φ', a'.defers = act.defers → TR φ' stD.a a'.tmps → Fr φ φ' st.h stD.h st.n stD.n (fun id => lim ≤ id) w w' → MemR P φ' stD.h stD.n w' S → Q .normal a' w') : (Code.region rid ops false).wp P Q act w := by
  refine wp_region_list ?_
  have key : wpList P ops Q (l1 ++ ⟨some dst, .call ⟨.builtin .append, #[a, b], #[t, t]⟩, ty, pos, af, gd⟩ :: l2) act w := by
    refine aops_okL hF l1 h1 hl ht mm fun a1 w1 φ1 hd1 ht1 f1 m1 => ?_
    have hn1 := f1.nle
    unfold wpList
    rw [ht1.wants hw]
    simp only [if_true]
    refine .inl ?_
    have hx1 := ht1.lev (b := a1) a
    rw [hs] at hx1
    obtain ⟨v', w2, hrun, hcase⟩ := app_fork (ty := ty) hT hx1 (ht1.lev (b := a1) b) hsrc hm0 hcok hm6 hl6 hr hcs m1
    have hrun2 : (execOp a1.eval ⟨some dst, .call ⟨.builtin .append, #[a, b], #[t, t]⟩, ty, pos, af, gd⟩).run P w1 = .ok (.value v') w2 := by
      have e1 : (execOp a1.eval ⟨some dst, .call ⟨.builtin .append, #[a, b], #[t, t]⟩, ty, pos, af, gd⟩).run P w1 =
          (builtin .append ⟨[t, t]⟩ ty ((⟨[a, b]⟩ : Array Operand).map fun | .const _ => true | _ => false) ⟨[a, b].map a1.eval⟩).run P w1 := by
        simp [execOp, resolve, invoke]
        rfl
      rw [e1]
      show ((do pure (Next.value (← Builtin.append_ #[t, t] ty #[a1.eval a, a1.eval b])) : Sem Next).run P w1) = _
      rw [Sem.run_bind, hrun]
      rfl
    unfold Oper.wp
    rw [hrun2]
    rcases hcase with ⟨hv, p⟩ | ⟨φ2, hv, p⟩
    · have hid : id < stB.n := m1.hb.lt (by rw [rwOf_some hr]; simp)
      have hb2 : HB (stB.h.set id (.row e false (cells.take (len * s) ++ news))) stB.n := fun k hk => by rw [Hp.get_ne _ _ (by omega)]; exact m1.hb k hk
      have f2 := p.toFr.weaken (Wr' := fun id => lim ≤ id) fun k _ h2 => by subst h2; exact hlim
      have m2 := m1.po p hb2
      have f12 := (f1.trans f2 (fun _ _ h => h) m1).bump m2
      obtain ⟨stA, hA1, hA2⟩ := map_some hA
      refine aops_ok hF l2 hA1 (by show lim ≤ stB.n + 1; omega) (ht1.put (some dst) hv) m2.bump fun a3 w3 φ3 hd3 ht3 f3 m3 => ?_
      subst hA2
      exact hQ a3 w3 φ3 (hd3.trans ((put_defers _ _ _).trans hd1)) (ht3.wild dst) ((f12.trans f3 (fun _ _ h => h) m2.bump).kill hn1) (m3.kill _)
    · have hb2 : HB (stB.h.set stB.n (.row e false (cells.take (len * s) ++ news))) (stB.n + 1) := m1.hb.new
      have f2 := p.toFr.weaken (Wr' := fun id => lim ≤ id) fun k _ h2 => h2.elim
      have m2 := m1.po p hb2
      have f12 := f1.trans f2 (fun _ _ h => h) m1
      obtain ⟨stA, hA1, hA2⟩ := map_some hB
      refine aops_ok hF l2 hA1 (by show lim ≤ stB.n + 1; omega) ((ht1.mono (f2.le m1.fn)).put (some dst) hv) m2 fun a3 w3 φ3 hd3 ht3 f3 m3 => ?_
      subst hA2
      exact hQ a3 w3 φ3 (hd3.trans ((put_defers _ _ _).trans hd1)) (ht3.wild dst) ((f12.trans f3 (fun _ _ h => h) m2).kill hn1) (m3.kill _)
  rw [← hsp] at key
  exact key
theorem true_some {r : Option (Value × Hp × Nat)} (h : isTrue r = true) : ∃ h0 n0, r = some (.bool true, h0, n0) := by
  unfold isTrue at h
  split at h
  · rename_i b x
    subst h
    exact ⟨_, _, rfl⟩
  · cases h
/-- an operation of a list -/
def opNo (ops : List Oper) (i : Nat) : Oper := match ops[i]? with
  | some o => o
  | none => ⟨none, .move (.const undef), 0, "", #[], none⟩
def regOps : Code → List Oper
  | .region _ ops _ => ops.toList
  | _ => []
def regOpsA : Code → Array Oper
  | .region _ ops _ => ops
  | _ => #[]
def regId : Code → Nat
  | .region id _ _ => id
  | _ => 0
def apArg (o : Oper) (i : Nat) : Operand := match o.op with
  | .call ⟨_, args, _⟩ => args.toList.getD i (.const undef)
  | _ => .const undef
noncomputable def fkNews (o : Oper) (st : St) (sz : Nat) : List Value := match srcOf sz st.h (lev st.a (apArg o 1)) with
  | some r => r.2.1
  | none => []
noncomputable def fkRd (o : Oper) (st : St) (sz : Nat) : List Nat := match srcOf sz st.h (lev st.a (apArg o 1)) with
  | some r => r.2.2
  | none => []
noncomputable def fkCells (st : St) (id : Nat) : List Value := match rwOf st.h id with
  | some r => r.2
  | none => []
/-- what an append is about: its temporary, its type, the block, its length, how many are new, their type and size -/
noncomputable def fkInfo (P : Program) (o : Oper) (st : St) : List Nat := match o.op, o.dst, lev st.a (apArg o 0) with
  | .call ⟨_, _, ts⟩, some d, .slice (some ⟨id, _, _⟩) len _ => match tyElem P (ts.toList.getD 0 0) with
    | some e => match tySize P e with
      | some sz => match srcOf sz st.h (lev st.a (apArg o 1)) with
        | some r => [d, ts.toList.getD 0 0, id, len, r.1, e, sz]
        | none => []
      | none => []
    | none => []
  | _, _, _ => []
/-- the append in its place -/
noncomputable def forkA (o : Oper) (st : St) (dst id len m e sz : Nat) : St := ⟨put st.a (some dst) (.slice (some ⟨id, 0, none⟩) (len + m) (len + m)), st.h.set id (.row e false ((fkCells st id).take (len * sz) ++ fkNews o st sz)), st.n + 1⟩
/-- the append in a new block -/
noncomputable def forkB (o : Oper) (st : St) (dst id len m e sz : Nat) : St := ⟨put st.a (some dst) (.slice (some ⟨st.n, 0, none⟩) (len + m) (len + m)), st.h.set st.n (.row e false ((fkCells st id).take (len * sz) ++ fkNews o st sz)), st.n + 1⟩
/-- the first pieces, then the rest -/
theorem cut_wp (hm : P.follows .mixedOrders = true) (hF : SoundF P F) (hF2 : StatF F) {k lim : Nat} {Q : Exit → Act → World → Prop} : ∀ (j : Nat) {c : Code} {st st1 : St} {φ : Mp} {w : World} {a : Act}, acode P F k lim (tk j c) st = some (0, st1) → lim ≤ st.n → TR φ st.a a.tmps → MemR P φ st.h st.n w S →
    (∀ a' w' φ', a'.defers = a.defers → TR φ' st1.a a'.tmps → Fr φ φ' st.h st1.h st.n st1.n (fun id => lim ≤ id) w w' → MemR P φ' st1.h st1.n w' S → (dr j c).wp P Q a' w') → c.wp P Q a w := by
  intro j
  induction j with
  | zero =>
    intro c st st1 φ w a h1 hl ht m hQ
    have h1' : (some (0, st) : Option (Ex × St)) = some (0, st1) := h1
    injection h1' with h1'
    injection h1' with _ h1'
    subst h1'
    exact hQ a w φ rfl ht (Fr.refl _ _ _ _) m
  | succ j ih =>
    intro c st st1 φ w a h1 hl ht m hQ
    cases c with
    | seq x y =>
      change (acode P F k lim x st).bind (fun r => bif Nat.beq r.1 0 then acode P F k lim (tk j y) r.2 else some r) = some (0, st1) at h1
      obtain ⟨r1, h3, h4⟩ := bind_some h1
      refine wp_seq (acode_ok hm hF hF2 x h3 hl ht m fun a1 w1 φ1 hd1 ht1 f1 m1 => ?_)
      cases hb : Nat.beq r1.1 0 with
      | true =>
        rw [hb] at h4
        rw [Nat.eq_of_beq_eq_true hb]
        exact ih h4 (Nat.le_trans hl f1.nle) ht1 m1 fun a2 w2 φ2 hd2 ht2 f2 m2 => hQ a2 w2 φ2 (hd2.trans hd1) ht2 (f1.trans f2 (fun _ _ hh => hh) m1) m2
      | false =>
        rw [hb] at h4
        injection h4 with h4
        rw [h4] at hb
        cases hb
    | _ =>
      have h1' : (some (0, st) : Option (Ex × St)) = some (0, st1) := h1
      injection h1' with h1'
      injection h1' with _ h1'
      subst h1'
      exact hQ a w φ rfl ht (Fr.refl _ _ _ _) m
/-- what is left of a function without arguments comes to true -/
def Goes (P : Program) (fn : Func) (w0 : World) (c : Code) (st : St) : Prop :=
  ∀ (φ : Mp) (a : Act) (w : World), a.defers = [] → TR φ st.a a.tmps → Fr (fun _ => none) φ [] st.h 0 st.n (fun id => 0 ≤ id) w0 w → MemR P φ st.h st.n w w0.heap.size →
    c.wp P (bodyPost P fn fun e w' => e = .returned (.bool true) ∧ Below w0.heap.size w0 w') a w
section
variable {k : Nat} {fn : Func} {w0 : World}
theorem goes_cut (hm : P.follows .mixedOrders = true) (hF : SoundF P F) (hF2 : StatF F) (j : Nat) {c : Code} {st st1 : St} (h1 : acode P F k 0 (tk j c) st = some (0, st1)) (h2 : Goes P fn w0 (dr j c) st1) : Goes P fn w0 c st := by
  intro φ a w hd ht f m
  exact cut_wp hm hF hF2 j h1 (Nat.zero_le _) ht m fun a' w' φ' hd' ht' f' m' => h2 φ' a' w' (hd'.trans hd) ht' (f.trans f' (fun _ _ h => h) m) m'
theorem goes_fork (hF : SoundF P F) {rid : Nat} {ops : Array Oper} {l1 l2 : List Oper} {dst : Tmp} {a b : Operand} {t ty e s m id len c0 : Nat} {pos : String} {af : Array Edge} {gd : Option (Nat × Bool)} {news cells : List Value} {rd : List Nat} {st stB stD : St} {rest c : Code}
    (hc : c = .seq (.region rid ops false) rest)
    (hsp : ops.toList = l1 ++ ⟨some dst, .call ⟨.builtin .append, #[a, b], #[t, t]⟩, ty, pos, af, gd⟩ :: l2)
    (h1 : aops P F 0 0 ops.toList l1 st = some stB)
    (hw : wants ops.toList ⟨some dst, .call ⟨.builtin .append, #[a, b], #[t, t]⟩, ty, pos, af, gd⟩ stB.a = some true)
    (hT : ApT P t e s) (hs : lev stB.a a = .slice (some ⟨id, 0, none⟩) len c0) (hsrc : srcOf s stB.h (lev stB.a b) = some (m, news, rd)) (hm0 : m ≠ 0) (hcok : news.all cok = true) (hm6 : m ≤ 1000000) (hl6 : len ≤ 1000000)
    (hr : rwOf stB.h id = some (e, cells)) (hcs : len * s ≤ cells.length)
    (hA : (aops P F 0 0 ops.toList l2 ⟨put stB.a (some dst) (.slice (some ⟨id, 0, none⟩) (len + m) (len + m)), stB.h.set id (.row e false (cells.take (len * s) ++ news)), stB.n + 1⟩).map (norm dst stB.n) = some stD)
    (hB : (aops P F 0 0 ops.toList l2 ⟨put stB.a (some dst) (.slice (some ⟨stB.n, 0, none⟩) (len + m) (len + m)), stB.h.set stB.n (.row e false (cells.take (len * s) ++ news)), stB.n + 1⟩).map (norm dst stB.n) = some stD)
    (h2 : Goes P fn w0 rest stD) : Goes P fn w0 c st := by
  subst hc
  intro φ act w hd ht f mm
  exact wp_seq (region_fork (lim := 0) hF hsp h1 hw hT hs hsrc hm0 hcok hm6 hl6 hr hcs (Nat.zero_le _) hA hB (Nat.zero_le _) ht mm fun a' w' φ' hd' ht' f' m' => h2 φ' a' w' (hd'.trans hd) ht' (f.trans f' (fun _ _ h => h) mm) m')
theorem goes_end (hm : P.follows .mixedOrders = true) (hF : SoundF P F) (hF2 : StatF F) {c : Code} {st : St} {r : Ex × St} (h1 : acode P F k 0 c st = some r) (h0 : Nat.ble r.1 1 = true) (hres : aresults P r.2.h fn.results.toList r.2.a = some (.bool true)) : Goes P fn w0 c st := by
  intro φ a w hd ht f m
  refine acode_ok hm hF hF2 c h1 (Nat.zero_le _) ht m fun a' w' φ' hd' ht' f' m' => ?_
  obtain ⟨v', e1, e2⟩ := results_ok ht' m' hres
  have f2 := f.trans f' (fun _ _ h => h) m
  obtain rfl := e2.bool
  have key : a'.defers = [] ∧ ∃ u, (results fn a'.tmps).run P w' = .ok u w' ∧ Ending.returned u = .returned (.bool true) ∧ Below w0.heap.size w0 w' :=
    ⟨hd'.trans hd, _, e1, rfl, f2.os, f2.tape, f2.output, f2.sz, fun g hg => f2.fr g hg fun id c h2 => by omega⟩
  obtain ⟨ex, st⟩ := r
  have hr1' : ex ≤ 1 := by rwa [Nat.ble_eq] at h0
  match ex, hr1', key with
  | 0, _, key => exact key
  | 1, _, key => exact key
theorem goes_calls {g : FuncId} (hf : P.funcs[g]? = some fn) {c : Code} (hb : fn.body = some c) (h : Goes P fn w0 c ⟨List.replicate fn.ntmps undef, [], 0⟩) :
    Calls P g #[] w0 fun e w' => e = .returned (.bool true) ∧ Below w0.heap.size w0 w' := by
  have hgd : ∀ id, Hp.get ([] : Hp) id = none := fun id => by unfold Hp.get; rw [lget_eq]; simp
  refine calls_of_wp hf hb (h (fun _ => none) _ w0 rfl ?_ (Fr.refl _ _ _ _) ⟨fun _ _ => rfl, fun id g c hp => (by cases hp), fun id id' g c c' _ hp => (by cases hp), fun id _ => hgd id, Nat.le_refl _⟩)
  have := TR.start (φ := fun _ => none) (args := []) (cargs := []) (k := fn.ntmps) trivial
  simpa using this
end
end
end Go.Proofs.Ytgdokjfjmcleeaa.Ce
