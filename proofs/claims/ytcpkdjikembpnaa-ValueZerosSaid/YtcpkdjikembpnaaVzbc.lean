/- Parts of the proof of ValueZeros: Gp, Ji, Jv, Jo, Mc, Mv, Hj, Hl, Il. No condition of its own. -/
import Derived.Test.YtcpkdjikembpnaaVzal
import Derived.Test.YtcpkdjikembpnaaVzam
import Derived.Test.YtcpkdjikembpnaaVzan
import Derived.Test.YtcpkdjikembpnaaVzao
import Derived.Test.YtcpkdjikembpnaaVzaq
import Derived.Test.YtcpkdjikembpnaaVzar
import Derived.Test.YtcpkdjikembpnaaVzas
import Derived.Test.YtcpkdjikembpnaaVzau
import Derived.Test.YtcpkdjikembpnaaVzav
import Derived.Test.YtcpkdjikembpnaaVzaw
import Derived.Test.YtcpkdjikembpnaaVzax
import Derived.Test.YtcpkdjikembpnaaVzbb
set_option linter.unusedVariables false
set_option linter.unusedSimpArgs false
set_option maxRecDepth 100000
set_option maxHeartbeats 4000000
namespace Go.Proofs.Ytcpkdjikembpnaa.Ce
open Go.RowKit
noncomputable def ZeroR (T : List Tp) (t : Int) : Except Int V := if okE T t ≠ 0 then .error (okE T t) else .ok (zeroV T 1000 t.toNat)
variable (k d cl : Nat) (h : Hp) (n : Nat)
theorem vzero0_ev (hk : 30000 ≤ k) (TA : Option Addr) (T : List Tp) (tc : Nat) (hT : TabH h n TA T) (hS : ∀ t ∈ T, t.fs.length ≤ 20000) (hm : T.length ≤ 9223372036854775807) (t : Int) :
  SQ k (d + 1100) cl 13 [.slice TA T.length tc, .int .i64 t] h n (LdV (ZeroR T t) h n) := by
 have qc0 := fun (h6 : Hp) (n6 : Nat) (hT6 : TabH h6 n6 TA T) => (vcheck_ev k (d + 1089) n h6 n6 hk TA T tc hT6 hS hm t).mono (Φ' := fun v h' n' => (∃ z : Int, v = .tuple ⟨[.int .i64 z, .int .i64 (okE T t)]⟩) ∧ h6 = h' ∧ n6 = n') fun _ _ _ hp => ⟨hp.1, hp.2.1.symm, hp.2.2.symm⟩
 unfold ZeroR
 by_cases hE : okE T t = 0
 ·obtain ⟨x, rfl, ho⟩ := okE_0 hE
  rw [if_neg (not_not_intro hE)]
  simp only [hE] at qc0
  rw [Int.toNat_natCast]
  obtain ⟨xv, hxv⟩ : ∃ xv, zeroV T 1000 x = xv := ⟨_, rfl⟩
  have qz := fun (h6 : Hp) (n6 : Nat) (hT6 : TabH h6 n6 TA T) => (vzero_ev k hk TA T tc hS (by have := ho.chk.1; omega) 1000 x ho (by have := ho.lt; have := ho.chk.1; omega) (d + 97) n h6 n6 hT6).mono (Φ' := fun v h' n' => ∃ A1 cc1, v = .agg ⟨vcell xv.kd xv.i xv.s A1 xv.l.length cc1 xv.c⟩ ∧ FH h' n6 n' xv (vcell xv.kd xv.i xv.s A1 xv.l.length cc1 xv.c) ∧ n6 ≤ n' ∧ ∀ b, b < n6 → h'.get b = h6.get b) fun v h' n' ⟨cs, e1, hf, a, b⟩ => by
   rw [hxv] at hf
   obtain ⟨A1, cc1, rfl⟩ := hf.cells
   exact ⟨A1, cc1, e1, hf, a, b⟩
  rw [hxv]
  refine enter Try.func13 (by kernel_rfl) rfl (by kernel_rfl) rfl rfl rfl ?_
  (repeat' first | refine zcd ?_ | intro K' hK | (with_reducible refine zn hK ?_; clear hK) | ((with_reducible apply o_callF (g := 37) w_none); (case ha => exact ez0); (case hs => ((with_reducible apply qc0); exact ezT hT)); (case' hk => rintro _ h' n' ⟨⟨z, rfl⟩, rfl, rfl⟩)) | ((with_reducible apply o_callF (g := 45) w_none); (case ha => exact ez0); (case hs => ((with_reducible apply qz); exact ezT hT)); (case' hk => rintro _ h' n' ⟨A1, cc1, rfl, hfx, hn6, hk6⟩)) | ((with_reducible first | apply zo1 | apply zo2 | apply o_guard rfl | apply x_cond | apply k_e1 rfl | apply k_e2 rfl | apply k_e0 rfl | apply k_e3 rfl | apply k_e4 rfl); (case he => exact ez0); (try case hok => exact ezO); all_goals try (intro hb; (try simp only [hbs, reduceCtorEq] at hb); try exact ezX)) | ((with_reducible apply o_undef rfl); (case hb => exact ez0)))
  have r8 : rowOf h' n = some (32, false, vcell 0 0 [] none 0 0 false) := by
   rw [rowOf_keep (hk6 _ (by omega))]
   simp (disch := first | assumption | omega | rfl | decide) only [go_sem, seval, tys]
   try rfl
  have w8 : rwOf h' n = some (32, [.int .u8 0, .int .i64 0, .string ⟨⟨[]⟩⟩, .slice none 0 0, .bool false]) := rwOf_row r8
  (repeat' first | refine zcd ?_ | intro K' hK | (with_reducible refine zn hK ?_; clear hK) | fail | ((with_reducible first | apply zo1 | apply zo2 | apply o_guard rfl | apply x_cond | apply k_e1 rfl | apply k_e2 rfl | apply k_e0 rfl | apply k_e3 rfl | apply k_e4 rfl); (case he => exact ez1 w8); (try case hok => exact ezO); all_goals try (intro hb; (try simp only [hbs, reduceCtorEq] at hb); try exact ezX)) | ((with_reducible apply o_undef rfl); (case hb => exact ez0)))
  exact sw_fh (hfx.keep (by omega) (Nat.le_refl _) fun b hb1 hb2 => by (repeat rw [Hp.get_ne _ _ (by omega)])) (by omega) (fun b hb => by (repeat rw [Hp.get_ne _ _ (by omega)]); rw [hk6 _ (by omega)]; (repeat rw [Hp.get_ne _ _ (by omega)])) fun cs2 h2 n2 a b c => ⟨cs2, rfl, a, b, c⟩
 ·rw [if_pos hE]
  obtain ⟨E, hEe⟩ : ∃ E, okE T t = E := ⟨_, rfl⟩
  simp only [hEe] at qc0 hE ⊢
  refine enter Try.func13 (by kernel_rfl) rfl (by kernel_rfl) rfl rfl rfl ?_
  (repeat' first | refine zcd ?_ | intro K' hK | (with_reducible refine zn hK ?_; clear hK) | ((with_reducible apply o_callF (g := 37) w_none); (case ha => exact ez0); (case hs => ((with_reducible apply qc0); exact ezT hT)); (case' hk => rintro _ h' n' ⟨⟨z, rfl⟩, rfl, rfl⟩)) | ((with_reducible first | apply zo1 | apply zo2 | apply o_guard rfl | apply x_cond | apply k_e1 rfl | apply k_e2 rfl | apply k_e0 rfl | apply k_e3 rfl | apply k_e4 rfl); (case he => exact ez0); (try case hok => exact ezO); all_goals try (intro hb; (try simp only [hbs, reduceCtorEq] at hb); try exact ezX)) | ((with_reducible apply o_undef rfl); (case hb => exact ez0)))
  all_goals exact sw_flat rfl rfl ⟨rfl, hE, rfl, rfl⟩
end Go.Proofs.Ytcpkdjikembpnaa.Ce
namespace Go.Proofs.Ytcpkdjikembpnaa.Ce
open Go.RowKit
structure Sub (F G : List Bool) : Prop where
 len : G.length = F.length
 mono : ∀ x : Nat, F[x]? = some true → G[x]? = some true
 cnt : G = F ∨ F.count true < G.count true
theorem Sub.rfl_ {F : List Bool} : Sub F F := ⟨rfl, fun _ h => h, .inl rfl⟩
theorem Sub.trans {F G H : List Bool} (a : Sub F G) (b : Sub G H) : Sub F H := by
 refine ⟨b.len.trans a.len, fun x h => b.mono x (a.mono x h), ?_⟩
 rcases a.cnt with h1 | h1 <;> rcases b.cnt with h2 | h2
 ·exact .inl (h2.trans h1)
 ·right; rw [h1] at h2; exact h2
 ·right; rw [h2]; exact h1
 ·right; omega
theorem set_true_same {F : List Bool} {y : Nat} (h : F[y]? = some true) : F.set y true = F := by
 refine List.ext_getElem? fun x => ?_
 rw [List.getElem?_set]
 by_cases e : y = x
 ·subst e
  rw [if_pos rfl, h]
  have : y < F.length := by
   rcases Nat.lt_or_ge y F.length with h1 | h1
   ·exact h1
   ·rw [List.getElem?_eq_none h1] at h; cases h
  rw [if_pos this]
 ·rw [if_neg e]
theorem Sub.set {F : List Bool} {y : Nat} (hy : y < F.length) : Sub F (F.set y true) := by
 refine ⟨List.length_set, fun x h => ?_, ?_⟩
 ·rw [List.getElem?_set]
  by_cases e : y = x
  ·rw [if_pos e, if_pos hy]
  ·rw [if_neg e]; exact h
 ·cases hb : F[y]
  ·right
   rw [List.count_set hy, hb]
   simp
  ·left
   exact set_true_same (by rw [List.getElem?_eq_getElem hy, hb])
theorem set_true_get {F : List Bool} {y : Nat} (hy : y < F.length) : (F.set y true)[y]? = some true := by rw [List.getElem?_set, if_pos rfl, if_pos hy]
def ClosedTo (T : List Tp) (F : List Bool) (k : Nat) : Prop := ∀ x (hx : x < T.length), x < k → F[x]? = some true → ∀ y : Nat, (y : Int) ∈ leadsT true T[x] → F[y]? = some true
def Snd (T : List Tp) (i : Nat) (F : List Bool) : Prop := ∀ x : Nat, F[x]? = some true → Rch T true i x
structure Out (T : List Tp) (i : Nat) (F : List Bool) (r : Nat) : Prop where
 len : F.length = T.length
 snd : Snd T i F
 st : F[i]? = some true
 ok : ClosedTo T F T.length ∨ r + 1 ≤ F.count true
structure Mid (T : List Tp) (i : Nat) (F G : List Bool) (r k : Nat) : Prop where
 out : Out T i F r
 sub : Sub F G
 snd : Snd T i G
 st : G[i]? = some true
 cl : G = F → ClosedTo T F k
 fx : ClosedTo T F T.length → G = F
structure Inn (T : List Tp) (i : Nat) (F G H : List Bool) (r k m : Nat) (ns : List Int) : Prop where
 mid : Mid T i F G r k
 sub : Sub G H
 snd : Snd T i H
 st : H[i]? = some true
 on : G[k]? = some true → ∀ y : Nat, (y : Int) ∈ ns.take m → H[y]? = some true
 off : G[k]? ≠ some true → H = G
 fx : ClosedTo T F T.length → H = F
theorem Out.init {T : List Tp} {i : Nat} (hi : i < T.length) : Out T i ((List.replicate T.length false).set i true) 0 := by
 have hl : i < (List.replicate T.length false).length := by rw [List.length_replicate]; exact hi
 refine ⟨by rw [List.length_set, List.length_replicate], fun x h => ?_, set_true_get hl, .inr ?_⟩
 ·rw [List.getElem?_set] at h
  by_cases e : i = x
  ·subst e; exact .refl
  ·rw [if_neg e, List.getElem?_replicate] at h
   split at h <;> cases h
 ·rw [List.count_set hl]
  simp
theorem Out.mid {T : List Tp} {i r : Nat} {F : List Bool} (h : Out T i F r) : Mid T i F F r 0 := ⟨h, Sub.rfl_, h.snd, h.st, fun _ x _ hx => absurd hx (by omega), fun _ => rfl⟩
theorem Mid.inn {T : List Tp} {i r k : Nat} {F G : List Bool} {ns : List Int} (h : Mid T i F G r k) : Inn T i F G G r k 0 ns := ⟨h, Sub.rfl_, h.snd, h.st, fun _ y hy => by simp at hy, fun _ => rfl, h.fx⟩
theorem Inn.len {T : List Tp} {i r k m : Nat} {F G H : List Bool} {ns : List Int} (h : Inn T i F G H r k m ns) : H.length = T.length := by rw [h.sub.len, h.mid.sub.len, h.mid.out.len]
theorem Inn.step {T : List Tp} {i r k m : Nat} {F G H : List Bool} {ns : List Int} (h : Inn T i F G H r k m ns) (hk : k < T.length) (hns : leadsT true T[k] = ns) (hm : m < ns.length) {y : Nat} (hy : ns[m] = (y : Int)) (hyl : y < T.length) (hHk : H[k]? = some true) : Inn T i F G (H.set y true) r k (m + 1) ns := by
 have hl := h.len
 have hyH : y < H.length := by omega
 have hs := Sub.set hyH
 have hG : G[k]? = some true := by
  rcases Classical.em (G[k]? = some true) with h1 | h1
  ·exact h1
  ·rw [h.off h1] at hHk; exact absurd hHk h1
 have hym : (y : Int) ∈ leadsT true T[k] := by rw [hns, ← hy]; exact List.getElem_mem _
 refine ⟨h.mid, h.sub.trans hs, fun x hx => ?_, hs.mono _ h.st, fun _ z hz => ?_, fun h1 => absurd hG h1, fun hc => ?_⟩
 ·rw [List.getElem?_set] at hx
  by_cases e : y = x
  ·subst e
   exact .step (h.snd k hHk) hk hym
  ·rw [if_neg e] at hx; exact h.snd x hx
 ·rw [List.take_succ_eq_append_getElem hm] at hz
  rcases List.mem_append.1 hz with hz | hz
  ·exact hs.mono _ (h.on hG z hz)
  ·have hz := List.mem_singleton.1 hz
   rw [hy] at hz
   obtain rfl : z = y := by omega
   exact set_true_get hyH
 ·have he := h.fx hc
  subst he
  exact set_true_same (hc k hk hk hHk y hym)
theorem Inn.next {T : List Tp} {i r k m : Nat} {F G H : List Bool} {ns : List Int} (h : Inn T i F G H r k m ns) (hk : k < T.length) (hns : leadsT true T[k] = ns) (hm : m = ns.length ∨ H[k]? ≠ some true) : Mid T i F H r (k + 1) := by
 refine ⟨h.mid.out, h.mid.sub.trans h.sub, h.snd, h.st, fun e => ?_, h.fx⟩
 have hGF : G = F := by
  rcases h.mid.sub.cnt with h1 | h1
  ·exact h1
  ·rcases h.sub.cnt with h2 | h2
   ·rw [← h2]; exact e
   ·rw [e] at h2; omega
 have hHG : H = G := by rw [e, hGF]
 intro x hx hxk hF y hy
 by_cases hxe : x = k
 ·subst hxe
  rcases hm with hm | hm
  ·rw [← e]
   refine h.on (by rw [hGF]; exact hF) y ?_
   rw [hm, List.take_length, ← hns]
   exact hy
  ·rw [e] at hm
   exact absurd hF hm
 ·exact h.mid.cl hGF x hx (by omega) hF y hy
theorem Mid.next {T : List Tp} {i r : Nat} {F G : List Bool} (h : Mid T i F G r T.length) : Out T i G (r + 1) := by
 refine ⟨by rw [h.sub.len, h.out.len], h.snd, h.st, ?_⟩
 rcases h.sub.cnt with h1 | h1
 ·left
  have := h.cl h1
  rw [h1]
  exact this
 ·rcases h.out.ok with h2 | h2
  ·rw [h.fx h2] at h1; exact absurd h1 (Nat.lt_irrefl _)
  ·right; omega
theorem Out.done {T : List Tp} {i : Nat} {F : List Bool} (hF : Fine T) (hi : i < T.length) (h : Out T i F T.length) : F = rchF T true i := by
 have hc : ClosedTo T F T.length := by
  rcases h.ok with h1 | h1
  ·exact h1
  ·have := List.count_le_length (a := true) (l := F)
   rw [h.len] at this
   omega
 exact rchF_eq hF hi h.len h.st (fun x _ hx => h.snd x hx) fun x hx h1 y hy => hc x hx hx h1 y hy
end Go.Proofs.Ytcpkdjikembpnaa.Ce
namespace Go.Proofs.Ytcpkdjikembpnaa.Ce
open Go.RowKit
def qv (ps : List (Int × Int)) : List Value := ps.flatMap fun p => [.int .i64 p.1, .int .i64 p.2]
variable (k d cl : Nat) (h : Hp) (n : Nat)
end Go.Proofs.Ytcpkdjikembpnaa.Ce
namespace Go.Proofs.Ytcpkdjikembpnaa.Ce
open Go.RowKit
variable (k d cl : Nat) (h : Hp) (n : Nat)
theorem rreached_ev (hk : 30000 ≤ k) (A : Option Addr) (T : List Tp) (c : Nat) (hT : TabH h n A T) (hl : T.length ≤ 32) (hF : Fine T) (i : Nat) (hi : i < T.length) :
  SQ k (d + 3) cl 58 [.slice A T.length c, .int .i64 i] h n (IntsV (reachL T i) h n) := by
 obtain ⟨tid, toff, hAA, htid, -⟩ := hT.at_ hi
 subst hAA
 obtain ⟨F0, hF0⟩ : ∃ F0, (List.replicate T.length false).set i true = F0 := ⟨_, rfl⟩
 have hov0 := bw_set (l := List.replicate T.length false) (i := i) (by rw [List.length_replicate]; exact hi)
 have hout := Out.init (T := T) hi
 rw [hF0] at hov0 hout
 refine enter Try.func58 (by kernel_rfl) rfl (by kernel_rfl) rfl rfl rfl ?_
 (repeat' first | refine zcd ?_ | intro K' hK | (with_reducible refine zn hK ?_; clear hK) | fail | ((with_reducible first | apply zo1 | apply zo2 | apply o_guard rfl | apply x_cond | apply k_e1 rfl | apply k_e2 rfl | apply k_e0 rfl | apply k_e3 rfl | apply k_e4 rfl); (case he => exact ez2 @mk_falses hov0); (try case hok => exact ezO); all_goals try (intro hb; (try simp only [hbs, reduceCtorEq] at hb); try exact ezX)) | ((with_reducible apply o_undef rfl); (case hb => exact ez0)))
 refine x_loopV [6, 7, 8, 9, 18, 19, 20, 21, 22, 23, 24, 25, 26, 27, 28, 29, 30, 31, 32, 33, 34, 35, 36, 37, 38, 39, 40, 41, 42, 43, 44, 45, 46, 47, 48, 49, 50, 51, 52] [6] (fun m vs h7 n7 => ∃ (r : Nat) (F : List Bool), m = T.length - r ∧ r ≤ T.length ∧ vs = [.int .i64 r] ∧ n + 1 ≤ n7 ∧ TabH h7 n (some ⟨tid, toff, none⟩) T ∧ rowOf h7 n = some (4, false, bw F) ∧ Out T i F r) T.length rfl (by omega) ?_ ?_
 ·exact ⟨0, F0, rfl, by omega, ez0, Nat.le_refl _, hT.set (Nat.le_refl _) _, rowOf_same _ _ _ _ _, hout⟩
 ·rintro m fr3 _ h7 n7 ⟨r, F, rfl, hr, rfl, hn7, hT7, qL7, hO⟩
  by_cases hrT : r < T.length
  ·(repeat' first | refine zcd ?_ | intro K' hK | (with_reducible refine zn hK ?_; clear hK) | fail | ((with_reducible first | apply zo1 | apply zo2 | apply o_guard rfl | apply x_cond | apply k_e1 rfl | apply k_e2 rfl | apply k_e0 rfl | apply k_e3 rfl | apply k_e4 rfl); (case he => exact ez0); (try case hok => exact ezO); all_goals try (intro hb; (try simp only [hbs, reduceCtorEq] at hb); try exact ezX)) | ((with_reducible apply o_undef rfl); (case hb => exact ez0)))
   refine x_loopV [7, 8, 9, 24, 25, 26, 27, 28, 29, 30, 31, 32, 33, 34, 35, 36, 37, 38, 39, 40, 41, 42, 43, 44, 45, 46, 47, 48, 49, 50, 51, 52] [7] (fun m vs h8 n8 => ∃ (x : Nat) (G : List Bool), m = T.length - x ∧ x ≤ T.length ∧ vs = [.int .i64 x] ∧ n + 1 ≤ n8 ∧ TabH h8 n (some ⟨tid, toff, none⟩) T ∧ rowOf h8 n = some (4, false, bw G) ∧ Mid T i F G r x) T.length rfl (by omega) ?_ ?_
   ·exact ⟨0, F, rfl, by omega, ez0, hn7, hT7, qL7, hO.mid⟩
   ·rintro m fr4 _ h8 n8 ⟨x, G, rfl, hx, rfl, hn8, hT8, qL8, hMd⟩
    by_cases hxT : x < T.length
    ·obtain ⟨_, _, hA2, -, ht4, -⟩ := hT8.at_ hxT
     injection hA2 with hA2
     injection hA2 with z1 z2
     subst z1
     subst z2
     have hfx := hF x hxT
     have pL := (rleads_ev k d n h8 n8 hk hfx ((hT8.fd _ (List.getElem_mem hxT)).more (by omega))).mono fun _ _ _ hh => IntsV.rd hh
     have hns := leadsT_in (far := true) hfx (by omega)
     have hnl := leadsT_len (far := true) hfx
     obtain ⟨ns, hnse⟩ : ∃ ns, leadsT true T[x] = ns := ⟨_, rfl⟩
     rw [hnse] at pL hns hnl
     (repeat' first | refine zcd ?_ | intro K' hK | (with_reducible refine zn hK ?_; clear hK) | ((with_reducible apply o_callF (g := 96) w_none); (case ha => exact ez0); (case hs => (exact pL)); (case' hk => rintro _ h' n' ⟨LA, lc, rfl, hrL, hLn, hn2, hkp⟩)) | ((with_reducible first | apply zo1 | apply zo2 | apply o_guard rfl | apply x_cond | apply k_e1 rfl | apply k_e2 rfl | apply k_e0 rfl | apply k_e3 rfl | apply k_e4 rfl); (case he => exact ez1 ht4); (try case hok => exact ezO); all_goals try (intro hb; (try simp only [hbs, reduceCtorEq] at hb); try exact ezX)) | ((with_reducible apply o_undef rfl); (case hb => exact ez0)))
     refine x_loopV [9, 35, 36, 37, 38, 39, 40, 41, 42, 43, 44, 45, 46, 47, 48, 49, 50, 51, 52] [9] (fun m vs h9 n9 => ∃ (s : Nat) (H : List Bool), m = ns.length - s ∧ s ≤ ns.length ∧ vs = [.int .i64 s] ∧ n9 = n' ∧ TabH h9 n (some ⟨tid, toff, none⟩) T ∧ RdH h9 n' LA (iv ns) ∧ rowOf h9 n = some (4, false, bw H) ∧ Inn T i F G H r x s ns) ns.length rfl (by omega) ?_ ?_
     ·exact ⟨0, G, rfl, by omega, ez0, rfl, hT8.keep (by omega) hkp, hrL, by rw [rowOf_keep (hkp _ (by omega))]; exact qL8, hMd.inn⟩
     ·rintro m fr5 _ h9 n9 ⟨s, H, rfl, hs, rfl, rfl, hT9, hrL9, qL9, hIn⟩
      have hHl := hIn.len
      have hHx : H[x]? = some (H[x]'(by omega)) := List.getElem?_eq_getElem (by omega)
      have cH := cellAt_row (off := x) qL9
      rw [bw_lget hHx] at cH
      obtain ⟨b, hb5⟩ : ∃ b, H[x]'(by omega) = b := ⟨_, rfl⟩
      rw [hb5] at cH hHx
      by_cases hsl : s < ns.length
      ·cases b
       ·have hnxt := hIn.next hxT hnse (.inr (by rw [hHx]; decide))
        (repeat' first | refine zcd ?_ | intro K' hK | (with_reducible refine zn hK ?_; clear hK) | fail | ((with_reducible first | apply zo1 | apply zo2 | apply o_guard rfl | apply x_cond | apply k_e1 rfl | apply k_e2 rfl | apply k_e0 rfl | apply k_e3 rfl | apply k_e4 rfl); (case he => exact ez1 cH); (try case hok => exact ezO); all_goals try (intro hb; (try simp only [hbs, reduceCtorEq] at hb); try exact ezX)) | ((with_reducible apply o_undef rfl); (case hb => exact ez0)))
        refine k_round (T.length - (x + 1)) (by omega) ⟨x + 1, H, rfl, by omega, ez0, by omega, hT9, qL9, hnxt⟩
       ·obtain ⟨lid, lof, hLA, -, cz⟩ := int_at hrL9 hsl
        subst hLA
        have hyb := hns ns[s] (List.getElem_mem _)
        obtain ⟨y, hy⟩ := Int.eq_ofNat_of_zero_le hyb.1
        rw [hy] at cz hyb
        have hstp := hIn.step hxT hnse hsl hy (by omega) hHx
        have w0 := rwOf_row qL9
        have hov := bw_set (l := H) (i := y) (by omega)
        have hLz := hLn lid lof rfl
        (repeat' first | refine zcd ?_ | intro K' hK | (with_reducible refine zn hK ?_; clear hK) | fail | ((with_reducible first | apply zo1 | apply zo2 | apply o_guard rfl | apply x_cond | apply k_e1 rfl | apply k_e2 rfl | apply k_e0 rfl | apply k_e3 rfl | apply k_e4 rfl); (case he => exact ez4 cH cz w0 hov); (try case hok => exact ezO); all_goals try (intro hb; (try simp only [hbs, reduceCtorEq] at hb); try exact ezX)) | ((with_reducible apply o_undef rfl); (case hb => exact ez0)))
        refine k_round (ns.length - (s + 1)) (by omega) ⟨s + 1, _, rfl, by omega, ez0, rfl, hT9.set (by omega) _, hrL9.kill (fun b o e => by injection e with e; injection e with e1; omega) _, rowOf_same _ _ _ _ _, hstp⟩
      ·obtain rfl : s = ns.length := by omega
       have hnxt := hIn.next hxT hnse (.inl rfl)
       (repeat' first | refine zcd ?_ | intro K' hK | (with_reducible refine zn hK ?_; clear hK) | fail | ((with_reducible first | apply zo1 | apply zo2 | apply o_guard rfl | apply x_cond | apply k_e1 rfl | apply k_e2 rfl | apply k_e0 rfl | apply k_e3 rfl | apply k_e4 rfl); (case he => exact ez1 cH); (try case hok => exact ezO); all_goals try (intro hb; (try simp only [hbs, reduceCtorEq] at hb); try exact ezX)) | ((with_reducible apply o_undef rfl); (case hb => exact ez0)))
       refine k_round (T.length - (x + 1)) (by omega) ⟨x + 1, H, rfl, by omega, ez0, by omega, hT9, qL9, hnxt⟩
    ·obtain rfl : x = T.length := by omega
     have hnxt := hMd.next
     (repeat' first | refine zcd ?_ | intro K' hK | (with_reducible refine zn hK ?_; clear hK) | fail | ((with_reducible first | apply zo1 | apply zo2 | apply o_guard rfl | apply x_cond | apply k_e1 rfl | apply k_e2 rfl | apply k_e0 rfl | apply k_e3 rfl | apply k_e4 rfl); (case he => exact ez0); (try case hok => exact ezO); all_goals try (intro hb; (try simp only [hbs, reduceCtorEq] at hb); try exact ezX)) | ((with_reducible apply o_undef rfl); (case hb => exact ez0)))
     refine k_round (T.length - (r + 1)) (by omega) ⟨r + 1, G, rfl, by omega, ez0, hn8, hT8, qL8, hnxt⟩
  ·obtain rfl : r = T.length := by omega
   have hFd := hO.done hF hi
   have hFl : F.length = T.length := hO.len
   unfold reachL
   rw [← hFd]
   clear hFd hO hout
   obtain ⟨g, hg⟩ : ∃ g : Nat → List Int, g = fun r => ((List.range r).filter fun x => F.getD x false).map fun (x : Nat) => (x : Int) := ⟨_, rfl⟩
   have hg1 : ∀ r, g (r + 1) = g r ++ if F.getD r false = true then [(r : Int)] else [] := fun r => by
    rw [hg]
    show ((List.range (r + 1)).filter _).map _ = _
    rw [List.range_succ, List.filter_append, List.map_append]
    congr 1
    by_cases hr : F.getD r false = true
    ·rw [if_pos hr, List.filter_cons_of_pos (p := fun x => F.getD x false) hr]; rfl
    ·rw [if_neg hr, List.filter_cons_of_neg (p := fun x => F.getD x false) hr]; rfl
   have hgl : ∀ r, (g r).length ≤ r := fun r => by
    rw [hg]
    show (((List.range r).filter _).map _).length ≤ r
    rw [List.length_map]
    have := List.length_filter_le (fun x => F.getD x false) (List.range r)
    rw [List.length_range] at this
    exact this
   have hge : ((List.range T.length).filter fun x => F.getD x false).map (fun (x : Nat) => (x : Int)) = g T.length := by rw [hg]
   rw [hge]
   (repeat' first | refine zcd ?_ | intro K' hK | (with_reducible refine zn hK ?_; clear hK) | fail | ((with_reducible first | apply zo1 | apply zo2 | apply o_guard rfl | apply x_cond | apply k_e1 rfl | apply k_e2 rfl | apply k_e0 rfl | apply k_e3 rfl | apply k_e4 rfl); (case he => exact ez0); (try case hok => exact ezO); all_goals try (intro hb; (try simp only [hbs, reduceCtorEq] at hb); try exact ezX)) | ((with_reducible apply o_undef rfl); (case hb => exact ez0)))
   refine x_loopV [10, 11, 53, 54, 55, 56, 57, 58, 59, 60, 61, 62, 63, 64, 65, 66] [10, 11] (fun m vs h4 n4 => ∃ (r : Nat) (O : Value), m = T.length - r ∧ r ≤ T.length ∧ vs = [O, .int .i64 r] ∧ n + 1 ≤ n4 ∧ rowOf h4 n = some (4, false, bw F) ∧ OwnI (g r) O h4 (n + 1) n4) T.length rfl (by omega) ?_ ?_
   ·exact ⟨0, .slice none 0 0, rfl, by omega, ez0, hn7, qL7, .inl ⟨by rw [hg]; rfl, rfl⟩⟩
   ·rintro m fr _ h4 n4 ⟨r, O, rfl, hr, rfl, hn4, p3, hO⟩
    by_cases hrs : r < T.length
    ·have hgr := hgl r
     have hnx := hg1 r
     have c3 := cellAt_row (off := r) p3
     rw [bw_lget (b := F.getD r false) (by rw [List.getD_eq_getElem?_getD, List.getElem?_eq_getElem (by omega)]; rfl)] at c3
     obtain ⟨acc, hacc⟩ : ∃ acc, g r = acc := ⟨_, rfl⟩
     rw [hacc] at hO hgr hnx
     cases hin : F.getD r false
     ·rw [hin] at c3 hnx
      rw [if_neg (by decide), List.append_nil] at hnx
      (repeat' first | refine zcd ?_ | intro K' hK | (with_reducible refine zn hK ?_; clear hK) | fail | ((with_reducible first | apply zo1 | apply zo2 | apply o_guard rfl | apply x_cond | apply k_e1 rfl | apply k_e2 rfl | apply k_e0 rfl | apply k_e3 rfl | apply k_e4 rfl); (case he => exact ez1 c3); (try case hok => exact ezO); all_goals try (intro hb; (try simp only [hbs, reduceCtorEq] at hb); try exact ezX)) | ((with_reducible apply o_undef rfl); (case hb => exact ez0)))
      refine k_round (T.length - (r + 1)) (by omega) ⟨r + 1, O, rfl, by omega, ez0, by omega, p3, by rw [hnx]; exact hO⟩
     ·rw [hin] at c3 hnx
      rw [if_pos rfl] at hnx
      rcases hO with ⟨hp0, rfl⟩ | ⟨hp0, id5, j1, j2, rfl, j3⟩
      ·(repeat' first | refine zcd ?_ | intro K' hK | (with_reducible refine zn hK ?_; clear hK) | ((with_reducible apply o_ap0 (t := 99) apT99 w_none); (case hs => exact ez0); (case hy => exact ez0); (case hsrc => exact src_row (rowOf_same _ _ _ _ _) rfl); (case hc => exact rfl); (case hm => omega); (case h0 => omega)) | ((with_reducible first | apply zo1 | apply zo2 | apply o_guard rfl | apply x_cond | apply k_e1 rfl | apply k_e2 rfl | apply k_e0 rfl | apply k_e3 rfl | apply k_e4 rfl); (case he => exact ez1 c3); (try case hok => exact ezO); all_goals try (intro hb; (try simp only [hbs, reduceCtorEq] at hb); try exact ezX)) | ((with_reducible apply o_undef rfl); (case hb => exact ez0)))
       refine k_round (T.length - (r + 1)) (by omega) ⟨r + 1, .slice (some ⟨n4 + 1, 0, none⟩) 1 1, rfl, by omega, ez0, by omega, by rw [rowOf_ne _ _ (by omega), rowOf_ne _ _ (by omega)]; exact p3, .inr ⟨?_, n4 + 1, by omega, by omega, ?_, ?_⟩⟩
       ·rw [hnx]; simp
       ·rw [hnx, hp0]; rfl
       ·rw [hnx, hp0]; exact rowOf_same _ _ _ _ _
      ·have w4 := rwOf_row j3
       have htk5 : (iv acc).take acc.length = iv acc := List.take_of_length_le (by rw [iv_length]; omega)
       (repeat' first | refine zcd ?_ | intro K' hK | (with_reducible refine zn hK ?_; clear hK) | ((with_reducible apply o_apR (t := 99) apT99 w_none); (case hs => exact ez1 w4); (case hy => exact ez1 w4); (case hsrc => exact src_row (rowOf_same _ _ _ _ _) rfl); (case hr => exact ez1 w4); (case hc => exact rfl); (case hm => omega); (case hli => omega); (case hln => omega); (case hcs => rw [iv_length]; omega)) | ((with_reducible first | apply zo1 | apply zo2 | apply o_guard rfl | apply x_cond | apply k_e1 rfl | apply k_e2 rfl | apply k_e0 rfl | apply k_e3 rfl | apply k_e4 rfl); (case he => exact ez2 c3 w4); (try case hok => exact ezO); all_goals try (intro hb; (try simp only [hbs, reduceCtorEq] at hb); try exact ezX)) | ((with_reducible apply o_undef rfl); (case hb => exact ez0)))
       refine k_round (T.length - (r + 1)) (by omega) ⟨r + 1, .slice (some ⟨n4 + 1, 0, none⟩) (acc.length + 1) (acc.length + 1), rfl, by omega, ez0, by omega, by rw [rowOf_ne _ _ (by omega), rowOf_ne _ _ (by omega), rowOf_ne _ _ (by omega)]; exact p3, .inr ⟨?_, n4 + 1, by omega, by omega, ?_, ?_⟩⟩
       ·rw [hnx]; simp
       ·rw [hnx, List.length_append]; rfl
       ·rw [hnx, iv_app1]
        exact ez1 htk5
    ·obtain rfl : r = T.length := by omega
     rcases hO with ⟨hp0, rfl⟩ | ⟨hp0, id5, j1, j2, rfl, j3⟩
     ·(repeat' first | refine zcd ?_ | intro K' hK | (with_reducible refine zn hK ?_; clear hK) | fail | ((with_reducible first | apply zo1 | apply zo2 | apply o_guard rfl | apply x_cond | apply k_e1 rfl | apply k_e2 rfl | apply k_e0 rfl | apply k_e3 rfl | apply k_e4 rfl); (case he => exact ez0); (try case hok => exact ezO); all_goals try (intro hb; (try simp only [hbs, reduceCtorEq] at hb); try exact ezX)) | ((with_reducible apply o_undef rfl); (case hb => exact ez0)))
      exact sw_flat rfl rfl (.inl ⟨hp0, rfl, rfl, rfl⟩)
     ·(repeat' first | refine zcd ?_ | intro K' hK | (with_reducible refine zn hK ?_; clear hK) | fail | ((with_reducible first | apply zo1 | apply zo2 | apply o_guard rfl | apply x_cond | apply k_e1 rfl | apply k_e2 rfl | apply k_e0 rfl | apply k_e3 rfl | apply k_e4 rfl); (case he => exact ez0); (try case hok => exact ezO); all_goals try (intro hb; (try simp only [hbs, reduceCtorEq] at hb); try exact ezX)) | ((with_reducible apply o_undef rfl); (case hb => exact ez0)))
      refine sw_row (m := id5) ezI rfl (by omega) j3 (iv_idA _ _) ezR ?_
      exact .inr ⟨hp0, rfl, rfl, rfl⟩
end Go.Proofs.Ytcpkdjikembpnaa.Ce
namespace Go.Proofs.Ytcpkdjikembpnaa.Ce
open Go.RowKit
variable (k d cl : Nat) (h : Hp) (n : Nat)
theorem rask5_ev (hk : 30000 ≤ k) (A : Option Addr) (T : List Tp) (c : Nat) (hT : TabH h n A T) (hS : ∀ t ∈ T, t.fs.length ≤ 20000) (hm : T.length ≤ 9223372036854775807) (i : Int) :
  SQ k (d + 8) cl 74 [.slice A T.length c, .int .i64 i] h n fun v h' n' => v = .int .i64 (szR 1000000 T i).2.2 ∧ h' = h ∧ n' = n := by
 by_cases hC : ChkT T
 ·by_cases hi : 0 ≤ i ∧ i < T.length
  ·have ha := askE_0 hC hi
   have hl := hC.1
   by_cases hb : 256 < ((eRow 1000000 T).at_ i).1
   ·have hz : (szR 1000000 T i).2.2 = 16 := by unfold szR; rw [if_pos hC, if_pos hi, if_pos hb]
    rw [hz]
    have hbg := hb
    have hEl := eRow_length 1000000 T
    obtain ⟨j, rfl⟩ := Int.eq_ofNat_of_zero_le hi.1
    obtain ⟨hge, hge1⟩ := sz_get (E := eRow 1000000 T) (j := j) (by omega)
    refine enter Try.func74 (by kernel_rfl) rfl (by kernel_rfl) rfl rfl rfl ?_
    (repeat' first | refine zcd ?_ | intro K' hK | (with_reducible refine zn hK ?_; clear hK) | ((with_reducible apply o_callF (g := 104) w_none); (case ha => exact ez0); (case hs => ((with_reducible apply rasked_ev (T := T)); (case hT => exact hT); (case hS => exact hS); (all_goals first | exact hk | omega))); (case' hk => rintro _ h' n' ⟨rfl, rfl, rfl⟩)) | ((with_reducible apply o_callF (g := 75) w_none); (case ha => exact ez0); (case hs => ((with_reducible apply rsizes_ev (T := T)); (case hT => first | exact hT | exact hT.set (by omega) _); (case hF => exact hC.2.1); (all_goals first | exact hk | omega))); (case' hk => rintro _ h' n' ⟨rfl, rfl, rfl⟩)) | ((with_reducible first | apply zo1 | apply zo2 | apply o_guard rfl | apply x_cond | apply k_e1 rfl | apply k_e2 rfl | apply k_e0 rfl | apply k_e3 rfl | apply k_e4 rfl); (case he => exact ez2 ha hge); (try case hok => exact ezO); all_goals try (intro hb; (try simp only [hbs, reduceCtorEq] at hb); try exact ezX)) | ((with_reducible apply o_undef rfl); (case hb => exact ez0)))
    all_goals exact sw_flat rfl rfl ⟨rfl, rfl, rfl⟩
   ·have hz : (szR 1000000 T i).2.2 = 0 := by unfold szR; rw [if_pos hC, if_pos hi, if_neg hb]
    rw [hz]
    have hbg := hb
    have hEl := eRow_length 1000000 T
    obtain ⟨j, rfl⟩ := Int.eq_ofNat_of_zero_le hi.1
    obtain ⟨hge, hge1⟩ := sz_get (E := eRow 1000000 T) (j := j) (by omega)
    refine enter Try.func74 (by kernel_rfl) rfl (by kernel_rfl) rfl rfl rfl ?_
    (repeat' first | refine zcd ?_ | intro K' hK | (with_reducible refine zn hK ?_; clear hK) | ((with_reducible apply o_callF (g := 104) w_none); (case ha => exact ez0); (case hs => ((with_reducible apply rasked_ev (T := T)); (case hT => exact hT); (case hS => exact hS); (all_goals first | exact hk | omega))); (case' hk => rintro _ h' n' ⟨rfl, rfl, rfl⟩)) | ((with_reducible apply o_callF (g := 75) w_none); (case ha => exact ez0); (case hs => ((with_reducible apply rsizes_ev (T := T)); (case hT => first | exact hT | exact hT.set (by omega) _); (case hF => exact hC.2.1); (all_goals first | exact hk | omega))); (case' hk => rintro _ h' n' ⟨rfl, rfl, rfl⟩)) | ((with_reducible first | apply zo1 | apply zo2 | apply o_guard rfl | apply x_cond | apply k_e1 rfl | apply k_e2 rfl | apply k_e0 rfl | apply k_e3 rfl | apply k_e4 rfl); (case he => exact ez2 ha hge); (try case hok => exact ezO); all_goals try (intro hb; (try simp only [hbs, reduceCtorEq] at hb); try exact ezX)) | ((with_reducible apply o_undef rfl); (case hb => exact ez0)))
    all_goals exact sw_flat rfl rfl ⟨rfl, rfl, rfl⟩
  ·have ha := askE_2 hC hi
   have hz : (szR 1000000 T i).2.2 = 2 := by unfold szR; rw [if_pos hC, if_neg hi]
   rw [hz]
   refine enter Try.func74 (by kernel_rfl) rfl (by kernel_rfl) rfl rfl rfl ?_
   (repeat' first | refine zcd ?_ | intro K' hK | (with_reducible refine zn hK ?_; clear hK) | ((with_reducible apply o_callF (g := 104) w_none); (case ha => exact ez0); (case hs => ((with_reducible apply rasked_ev (T := T)); (case hT => exact hT); (case hS => exact hS); (all_goals first | exact hk | omega))); (case' hk => rintro _ h' n' ⟨rfl, rfl, rfl⟩)) | ((with_reducible first | apply zo1 | apply zo2 | apply o_guard rfl | apply x_cond | apply k_e1 rfl | apply k_e2 rfl | apply k_e0 rfl | apply k_e3 rfl | apply k_e4 rfl); (case he => exact ez1 ha); (try case hok => exact ezO); all_goals try (intro hb; (try simp only [hbs, reduceCtorEq] at hb); try exact ezX)) | ((with_reducible apply o_undef rfl); (case hb => exact ez0)))
   all_goals exact sw_flat rfl rfl ⟨rfl, rfl, rfl⟩
 ·have ha := askE_8 (i := i) (j := i) hC
  have hz : (szR 1000000 T i).2.2 = 8 := by unfold szR; rw [if_neg hC]
  rw [hz]
  refine enter Try.func74 (by kernel_rfl) rfl (by kernel_rfl) rfl rfl rfl ?_
  (repeat' first | refine zcd ?_ | intro K' hK | (with_reducible refine zn hK ?_; clear hK) | ((with_reducible apply o_callF (g := 104) w_none); (case ha => exact ez0); (case hs => ((with_reducible apply rasked_ev (T := T)); (case hT => exact hT); (case hS => exact hS); (all_goals first | exact hk | omega))); (case' hk => rintro _ h' n' ⟨rfl, rfl, rfl⟩)) | ((with_reducible first | apply zo1 | apply zo2 | apply o_guard rfl | apply x_cond | apply k_e1 rfl | apply k_e2 rfl | apply k_e0 rfl | apply k_e3 rfl | apply k_e4 rfl); (case he => exact ez1 ha); (try case hok => exact ezO); all_goals try (intro hb; (try simp only [hbs, reduceCtorEq] at hb); try exact ezX)) | ((with_reducible apply o_undef rfl); (case hb => exact ez0)))
  all_goals exact sw_flat rfl rfl ⟨rfl, rfl, rfl⟩
end Go.Proofs.Ytcpkdjikembpnaa.Ce
namespace Go.Proofs.Ytcpkdjikembpnaa.Ce
open Go.RowKit
variable (k d cl : Nat) (h : Hp) (n : Nat)
theorem rsize_ev5 (hk : 30000 ≤ k) (A : Option Addr) (T : List Tp) (c : Nat) (hT : TabH h n A T) (hS : ∀ t ∈ T, t.fs.length ≤ 20000) (hm : T.length ≤ 9223372036854775807) (i : Int) :
  SQ k (d + 9) cl 42 [.slice A T.length c, .int .i64 i] h n fun v h' n' => v = .tuple ⟨[.int .i64 (szR 1000000 T i).1, .int .i64 (szR 1000000 T i).2.1, .int .i64 (szR 1000000 T i).2.2]⟩ ∧ h' = h ∧ n' = n := by
 by_cases hq : ChkT T ∧ (0 ≤ i ∧ i < T.length) ∧ ¬ 256 < ((eRow 1000000 T).at_ i).1
 ·obtain ⟨hC, hi, hb⟩ := hq
  have hz : szR 1000000 T i = (((eRow 1000000 T).at_ i).1, ((eRow 1000000 T).at_ i).2, 0) := by unfold szR; rw [if_pos hC, if_pos hi, if_neg hb]
  have hl := hC.1
  have hz2 : (szR 1000000 T i).2.2 = 0 := by rw [hz]
  rw [hz]
  have hEl := eRow_length 1000000 T
  obtain ⟨j, rfl⟩ := Int.eq_ofNat_of_zero_le hi.1
  obtain ⟨hge, hge1⟩ := sz_get (E := eRow 1000000 T) (j := j) (by omega)
  refine enter Try.func42 (by kernel_rfl) rfl (by kernel_rfl) rfl rfl rfl ?_
  (repeat' first | refine zcd ?_ | intro K' hK | (with_reducible refine zn hK ?_; clear hK) | ((with_reducible apply o_callF (g := 74) w_none); (case ha => exact ez0); (case hs => ((with_reducible apply rask5_ev (T := T)); (case hT => exact hT); (case hS => exact hS); (all_goals first | exact hk | omega))); (case' hk => rintro _ h' n' ⟨rfl, rfl, rfl⟩)) | ((with_reducible apply o_callF (g := 75) w_none); (case ha => exact ez0); (case hs => ((with_reducible apply rsizes_ev (T := T)); (case hT => first | exact hT | exact hT.set (by omega) _); (case hF => exact hC.2.1); (all_goals first | exact hk | omega))); (case' hk => rintro _ h' n' ⟨rfl, rfl, rfl⟩)) | (with_reducible refine x_drawnD (id := 5) [(3, 7)] (by kernel_rfl) fun K' hK => ?_) | ((with_reducible apply d_nil); (case hp => exact ezP); (case' hx => (refine hK _ _ _ ?_; clear hK))) | ((with_reducible apply d_pure w_none); (case hp => exact rfl); (case hc => exact rfl); (case he => exact ez2 hge hge1)) | ((with_reducible apply d_eff w_none); (case hc => exact rfl); (case he => exact ez2 hge hge1); (case hok => exact ezO)) | ((with_reducible apply d_guard rfl); (case hb => exact ez2 hge hge1); (case' h1 => intro hb; (try simp only [hbs, reduceCtorEq] at hb); try exact ezX); (case' h2 => intro hb; (try simp only [hbs, reduceCtorEq] at hb); try exact ezX)) | ((with_reducible first | apply zo1 | apply zo2 | apply o_guard rfl | apply x_cond | apply k_e1 rfl | apply k_e2 rfl | apply k_e0 rfl | apply k_e3 rfl | apply k_e4 rfl); (case he => exact ez3 hge hge1 hz2); (try case hok => exact ezO); all_goals try (intro hb; (try simp only [hbs, reduceCtorEq] at hb); try exact ezX)) | ((with_reducible apply o_undef rfl); (case hb => exact ez0)))
  all_goals exact sw_flat rfl rfl ⟨rfl, rfl, rfl⟩
 ·have hz : ∃ e, e ≠ 0 ∧ szR 1000000 T i = (0, 0, e) := by
   unfold szR
   by_cases hC : ChkT T
   ·rw [if_pos hC]
    by_cases hi : 0 ≤ i ∧ i < T.length
    ·rw [if_pos hi]
     by_cases hb : 256 < ((eRow 1000000 T).at_ i).1
     ·rw [if_pos hb]; exact ⟨16, by decide, rfl⟩
     ·exact absurd ⟨hC, hi, hb⟩ hq
    ·rw [if_neg hi]; exact ⟨2, by decide, rfl⟩
   ·rw [if_neg hC]; exact ⟨8, by decide, rfl⟩
  obtain ⟨e, he0, hz⟩ := hz
  have hz2 : (szR 1000000 T i).2.2 = e := by rw [hz]
  rw [hz]
  refine enter Try.func42 (by kernel_rfl) rfl (by kernel_rfl) rfl rfl rfl ?_
  (repeat' first | refine zcd ?_ | intro K' hK | (with_reducible refine zn hK ?_; clear hK) | ((with_reducible apply o_callF (g := 74) w_none); (case ha => exact ez0); (case hs => ((with_reducible apply rask5_ev (T := T)); (case hT => exact hT); (case hS => exact hS); (all_goals first | exact hk | omega))); (case' hk => rintro _ h' n' ⟨rfl, rfl, rfl⟩)) | ((with_reducible first | apply zo1 | apply zo2 | apply o_guard rfl | apply x_cond | apply k_e1 rfl | apply k_e2 rfl | apply k_e0 rfl | apply k_e3 rfl | apply k_e4 rfl); (case he => exact ez1 hz2); (try case hok => exact ezO); all_goals try (intro hb; (try simp only [hbs, reduceCtorEq] at hb); try exact ezX)) | ((with_reducible apply o_undef rfl); (case hb => exact ez0)))
  all_goals exact sw_flat rfl rfl ⟨rfl, rfl, rfl⟩
end Go.Proofs.Ytcpkdjikembpnaa.Ce
namespace Go.Proofs.Ytcpkdjikembpnaa.Ce
open Go.RowKit
variable (k d cl : Nat) (h : Hp) (n : Nat)
theorem rasked15_ev (hk : 30000 ≤ k) (A : Option Addr) (T : List Tp) (c : Nat) (hT : TabH h n A T) (hS : ∀ t ∈ T, t.fs.length ≤ 20000) (hm : T.length ≤ 9223372036854775807) (t : Int) :
  SQ k (d + 12) cl 36 [.slice A T.length c, .int .i64 t] h n fun v h' n' => v = .int .i64 (okE T t) ∧ h = h' ∧ n = n' := by
 have qs := fun (h6 : Hp) (n6 : Nat) (t : Int) (hT6 : TabH h6 n6 A T) => (rsize_ev5 k (d + 2) n h6 n6 hk A T c hT6 hS hm t).mono (Φ' := fun v h' n' => v = .tuple ⟨[.int .i64 (szR 1048576 T t).1, .int .i64 (szR 1048576 T t).2.1, .int .i64 (szR 1048576 T t).2.2]⟩ ∧ h6 = h' ∧ n6 = n') fun _ _ _ hp => ⟨by rw [hp.1, szR_eq], hp.2.1.symm, hp.2.2.symm⟩
 by_cases he : (szR 1048576 T t).2.2 = 0
 ·obtain ⟨hC, ht, -⟩ := szR_0 he
  obtain ⟨i, rfl⟩ := Int.eq_ofNat_of_zero_le ht.1
  have q1 := qs h n i hT
  rw [he] at q1
  have q2 := (rreached_ev k (d + 8) n h n hk A T c hT hC.1 hC.2.1 i (by omega)).mono (Φ' := IntsR (reachL T i) h n) fun _ _ _ hv => IntsV.rd hv
  have hrl := reach_len T i
  have hl := hC.1
  have hok0 : (∀ x ∈ reachL T i, (szR 1048576 T x).2.2 = 0) → okE T i = 0 := fun hb => by unfold okE; rw [if_neg (not_not_intro he), Int.toNat_natCast, if_pos hb]
  have hok1 : (¬ ∀ x ∈ reachL T i, (szR 1048576 T x).2.2 = 0) → okE T i = 16 := fun hb => by unfold okE; rw [if_neg (not_not_intro he), Int.toNat_natCast, if_neg hb]
  obtain ⟨rl, hrle⟩ : ∃ rl, reachL T i = rl := ⟨_, rfl⟩
  have hmem : ∀ x ∈ rl, 0 ≤ x ∧ x < T.length := fun x hx => by
   rw [← hrle] at hx
   obtain ⟨y, rfl, hy, -⟩ := reach_mem.1 hx
   omega
  rw [hrle] at q2 hrl hok0 hok1
  obtain ⟨E, hEe⟩ : ∃ E, okE T i = E := ⟨_, rfl⟩
  rw [hEe]
  refine enter Try.func36 (by kernel_rfl) rfl (by kernel_rfl) rfl rfl rfl ?_
  (repeat' first | refine zcd ?_ | intro K' hK | (with_reducible refine zn hK ?_; clear hK) | ((with_reducible apply o_callF (g := 42) w_none); (case ha => exact ez0); (case hs => (exact q1)); (case' hk => rintro _ h' n' ⟨rfl, rfl, rfl⟩)) | ((with_reducible apply o_callF (g := 58) w_none); (case ha => exact ez0); (case hs => (exact q2)); (case' hk => rintro _ h' n' ⟨RA, rc, rfl, hrR, hRn, hn2, hk2⟩)) | ((with_reducible first | apply zo1 | apply zo2 | apply o_guard rfl | apply x_cond | apply k_e1 rfl | apply k_e2 rfl | apply k_e0 rfl | apply k_e3 rfl | apply k_e4 rfl); (case he => exact ez0); (try case hok => exact ezO); all_goals try (intro hb; (try simp only [hbs, reduceCtorEq] at hb); try exact ezX)) | ((with_reducible apply o_undef rfl); (case hb => exact ez0)))
  refine x_loopF [4, 9, 10, 11, 12, 26, 27, 28, 29, 30, 31, 32, 33, 34, 35, 36, 37, 38, 39, 40, 41, 42, 43, 44] [9] (fun m vs => ∃ q : Nat, m = rl.length - q ∧ q ≤ rl.length ∧ vs = [.int .i64 q] ∧ ∀ x ∈ rl.take q, (szR 1048576 T x).2.2 = 0) rl.length rfl (by omega) ⟨0, rfl, by omega, ez0, by simp⟩ ?_
  rintro m g _ ⟨q, rfl, hq, rfl, hall⟩
  by_cases hql : q < rl.length
  ·obtain ⟨rid, rof, hRA, -, c1⟩ := int_at hrR hql
   subst hRA
   have hxm := hmem rl[q] (List.getElem_mem hql)
   obtain ⟨x, hx⟩ : ∃ x, rl[q] = x := ⟨_, rfl⟩
   rw [hx] at c1 hxm
   have q3 := qs h' n' x ((hT.keep (Nat.le_refl _) hk2).more hn2)
   by_cases hx0 : (szR 1048576 T x).2.2 = 0
   ·rw [hx0] at q3
    (repeat' first | refine zcd ?_ | intro K' hK | (with_reducible refine zn hK ?_; clear hK) | ((with_reducible apply o_callF (g := 42) w_none); (case ha => exact ez0); (case hs => (exact q3)); (case' hk => rintro _ h' n' ⟨rfl, rfl, rfl⟩)) | ((with_reducible first | apply zo1 | apply zo2 | apply o_guard rfl | apply x_cond | apply k_e1 rfl | apply k_e2 rfl | apply k_e0 rfl | apply k_e3 rfl | apply k_e4 rfl); (case he => exact ez1 c1); (try case hok => exact ezO); all_goals try (intro hb; (try simp only [hbs, reduceCtorEq] at hb); try exact ezX)) | ((with_reducible apply o_undef rfl); (case hb => exact ez0)))
    refine k_round (rl.length - (q + 1)) (by omega) ⟨⟨rfl, rfl⟩, q + 1, rfl, by omega, ez0, fun y hy => ?_⟩
    rw [List.take_succ_eq_append_getElem hql] at hy
    rcases List.mem_append.1 hy with hy | hy
    ·exact hall y hy
    ·obtain rfl := List.mem_singleton.1 hy
     rw [hx]
     exact hx0
   ·have h16 := szR_err hC hxm hx0
    have hE : E = 16 := by rw [← hEe, hok1 fun hh => hx0 (hh x (by rw [← hx]; exact List.getElem_mem hql))]
    rw [h16] at q3
    subst hE
    (repeat' first | refine zcd ?_ | intro K' hK | (with_reducible refine zn hK ?_; clear hK) | ((with_reducible apply o_callF (g := 42) w_none); (case ha => exact ez0); (case hs => (exact q3)); (case' hk => rintro _ h' n' ⟨rfl, rfl, rfl⟩)) | ((with_reducible first | apply zo1 | apply zo2 | apply o_guard rfl | apply x_cond | apply k_e1 rfl | apply k_e2 rfl | apply k_e0 rfl | apply k_e3 rfl | apply k_e4 rfl); (case he => exact ez1 c1); (try case hok => exact ezO); all_goals try (intro hb; (try simp only [hbs, reduceCtorEq] at hb); try exact ezX)) | ((with_reducible apply o_undef rfl); (case hb => exact ez0)))
    all_goals exact sw_flat rfl rfl ⟨rfl, rfl, rfl⟩
  ·obtain rfl : q = rl.length := by omega
   rw [List.take_length] at hall
   have hE : E = 0 := by rw [← hEe, hok0 hall]
   subst hE
   (repeat' first | refine zcd ?_ | intro K' hK | (with_reducible refine zn hK ?_; clear hK) | fail | ((with_reducible first | apply zo1 | apply zo2 | apply o_guard rfl | apply x_cond | apply k_e1 rfl | apply k_e2 rfl | apply k_e0 rfl | apply k_e3 rfl | apply k_e4 rfl); (case he => exact ez0); (try case hok => exact ezO); all_goals try (intro hb; (try simp only [hbs, reduceCtorEq] at hb); try exact ezX)) | ((with_reducible apply o_undef rfl); (case hb => exact ez0)))
   all_goals exact sw_flat rfl rfl ⟨rfl, rfl, rfl⟩
 ·have e : okE T t = (szR 1048576 T t).2.2 := by unfold okE; rw [if_pos he]
  rw [e]
  have q1 := qs h n t hT
  obtain ⟨E, hE⟩ : ∃ E, (szR 1048576 T t).2.2 = E := ⟨_, rfl⟩
  rw [hE] at q1 he ⊢
  refine enter Try.func36 (by kernel_rfl) rfl (by kernel_rfl) rfl rfl rfl ?_
  (repeat' first | refine zcd ?_ | intro K' hK | (with_reducible refine zn hK ?_; clear hK) | ((with_reducible apply o_callF (g := 42) w_none); (case ha => exact ez0); (case hs => (exact q1)); (case' hk => rintro _ h' n' ⟨rfl, rfl, rfl⟩)) | ((with_reducible first | apply zo1 | apply zo2 | apply o_guard rfl | apply x_cond | apply k_e1 rfl | apply k_e2 rfl | apply k_e0 rfl | apply k_e3 rfl | apply k_e4 rfl); (case he => exact ez0); (try case hok => exact ezO); all_goals try (intro hb; (try simp only [hbs, reduceCtorEq] at hb); try exact ezX)) | ((with_reducible apply o_undef rfl); (case hb => exact ez0)))
  all_goals exact sw_flat rfl rfl ⟨rfl, rfl, rfl⟩
end Go.Proofs.Ytcpkdjikembpnaa.Ce
namespace Go.Proofs.Ytcpkdjikembpnaa.Ce
open Go.RowKit
def rvV : Except Int V → V
 | .error _ => .mk 0 0 [] [] false
 | .ok x => x
def rvE : Except Int V → Int
 | .error e => e
 | .ok _ => 0
def LdU (x : V) (e : Int) (h : Hp) (n : Nat) (v : Value) (h' : Hp) (n' : Nat) : Prop := ∃ A1 cc1, v = .tuple ⟨[.agg ⟨vcell x.kd x.i x.s A1 x.l.length cc1 x.c⟩, .int .i64 e]⟩ ∧ VH h' n' x (vcell x.kd x.i x.s A1 x.l.length cc1 x.c) ∧ n ≤ n' ∧ ∀ b, b < n → h'.get b = h.get b
theorem LdV.uni {r : Except Int V} {h h' : Hp} {n n' : Nat} {v : Value} (hh : LdV r h n v h' n') : LdU (rvV r) (rvE r) h n v h' n' := by
 cases r with
 | error e =>
  obtain ⟨e1, -, e2, e3⟩ := hh
  subst e2
  subst e3
  exact ⟨none, 0, e1, .leaf 0 0 [] false none 0 fun _ => rfl, Nat.le_refl _, fun _ _ => rfl⟩
 | ok x =>
  obtain ⟨cs, e1, hf, a, b⟩ := hh
  obtain ⟨A1, cc1, rfl⟩ := hf.cells
  exact ⟨A1, cc1, e1, hf.vh, a, b⟩
end Go.Proofs.Ytcpkdjikembpnaa.Ce
namespace Go.Proofs.Ytcpkdjikembpnaa.Ce
open Go.RowKit
def zb (m : Nat) : List UInt8 := List.replicate m 0
theorem zb_length (m : Nat) : (zb m).length = m := by simp [zb]
theorem prt_nil {T : List Tp} {t : Nat} (ho : OkV T t) (h5 : (T[t]'ho.lt).kd ≠ 5) (h6 : (T[t]'ho.lt).kd ≠ 6) : prtT (T[t]'ho.lt) = [] := by
 have hfi := ho.chk.2.1 t ho.lt
 unfold prtT
 rw [fine_nofs hfi h5, fine_ln hfi h6]
 rfl
theorem zero_fits {T : List Tp} {dp : Nat} : ∀ (N f t : Nat), OkV T t → t < N → t < f → fitP T N t (zeroV T f t) dp = true
 | 0, _, _, _, h, _ => absurd h (Nat.not_lt_zero _)
 | _, 0, _, _, _, h => absurd h (Nat.not_lt_zero _)
 | N + 1, f + 1, t, ho, hN, hf => by
  have htl := ho.lt
  have hx := List.getElem?_eq_getElem htl
  have hpl := prt_len ho
  have hpi := fun q (a : q < (prtT T[t]).length) (b : q < (offsT T T[t]).length) => prt_in ho a b
  have hpn := fun a b => prt_nil ho a b
  rw [zeroV, hx]
  dsimp only
  rw [fitP, hx]
  dsimp only
  obtain ⟨x, hxx⟩ : ∃ x, T[t] = x := ⟨_, rfl⟩
  simp only [hxx] at hpl hpi hpn ⊢
  rw [if_neg (by simp)]
  by_cases k1 : x.kd = 1
  ·rw [if_pos k1, hpn (by omega) (by omega)]; rfl
  rw [if_neg k1]
  by_cases k2 : x.kd = 2
  ·rw [if_pos k2, hpn (by omega) (by omega)]; rfl
  rw [if_neg k2]
  by_cases k3 : x.kd = 3
  ·rw [if_pos k3, hpn (by omega) (by omega)]; rfl
  rw [if_neg k3]
  by_cases k4 : x.kd = 4
  ·rw [if_pos k4, hpn (by omega) (by omega)]; rfl
  rw [if_neg k4]
  by_cases k7 : x.kd = 7
  ·rw [if_pos k7, hpn (by omega) (by omega)]; rfl
  rw [if_neg k7]
  simp only [Bool.and_eq_true, decide_eq_true_eq, List.all_eq_true, List.length_map, true_and]
  intro e he
  obtain ⟨j, hj, rfl⟩ := List.getElem_of_mem he
  rw [List.length_zip, List.length_map] at hj
  rw [List.getElem_zip, List.getElem_map]
  obtain ⟨y, hy, hyt, hoy, -⟩ := hpi j (by omega) (by omega)
  dsimp only
  rw [hy, Int.toNat_natCast]
  exact zero_fits N f y hoy (by omega) (by omega)
theorem zero_bd {T : List Tp} : ∀ (N f t : Nat), OkV T t → t < N → t < f → Bd N (zeroV T f t)
 | 0, _, _, _, h, _ => absurd h (Nat.not_lt_zero _)
 | _, 0, _, _, _, h => absurd h (Nat.not_lt_zero _)
 | N + 1, f + 1, t, ho, hN, hf => by
  have htl := ho.lt
  have hpl := prt_len ho
  have hpi := fun q (a : q < (prtT T[t]).length) (b : q < (offsT T T[t]).length) => prt_in ho a b
  rw [zeroV, List.getElem?_eq_getElem htl]
  obtain ⟨x, hx⟩ : ∃ x, T[t] = x := ⟨_, rfl⟩
  simp only [hx] at hpl hpi ⊢
  refine ⟨by show (List.map _ _).length ≤ _; rw [List.length_map]; omega, fun w hw => ?_⟩
  obtain ⟨p, hp, rfl⟩ := List.mem_map.1 (show w ∈ (prtT x).map fun p => zeroV T f p.toNat from hw)
  obtain ⟨q, hq, rfl⟩ := List.getElem_of_mem hp
  obtain ⟨y, hy, hyt, hoy, -⟩ := hpi q hq (by omega)
  rw [hy, Int.toNat_natCast]
  exact zero_bd N f y hoy (by omega) (by omega)
theorem toLE_z : toLE 8 0 = zb 8 := by decide +kernel
theorem litP_z : ∀ (l : List Int), (∀ w ∈ l, w = 0) → litP l = zb (8 * l.length)
 | [], _ => rfl
 | w :: l, h => by
  obtain rfl := h w (List.mem_cons_self ..)
  have := litP_z l fun w hw => h w (List.mem_cons_of_mem _ hw)
  unfold litP at *
  rw [List.flatMap_cons, this, toLE_z]
  unfold zb
  rw [List.replicate_append_replicate]
  congr 1
  simp
  omega
theorem catP_const (g : List UInt8 → Nat → V → Except Int (List UInt8 × List UInt8)) (f : Int × V → List UInt8) (hs : List UInt8) : ∀ (l : List (Int × V)), (∀ p ∈ l, g hs p.1.toNat p.2 = .ok (hs, f p)) → catP g hs l = .ok (hs, l.map f)
 | [], _ => rfl
 | p :: l, h => by
  unfold catP
  rw [h p (List.mem_cons_self ..)]
  dsimp only
  rw [catP_const g f hs l fun q hq => h q (List.mem_cons_of_mem _ hq)]
  rfl
theorem put_z {m p k : Nat} (h : p + k ≤ m) : Go.Proofs.Ytcpkdjikembpnaa.put (zb m) p (zb k) = zb m := by
 unfold Go.Proofs.Ytcpkdjikembpnaa.put zb
 rw [List.take_replicate, List.drop_replicate, List.length_replicate, List.replicate_append_replicate, List.replicate_append_replicate]
 congr 1
 omega
theorem place_z {m : Nat} : ∀ (l : List (Int × List UInt8)), (∀ p ∈ l, ∃ k, p.2 = zb k ∧ p.1.toNat + k ≤ m) → placeP (zb m) l = zb m
 | [], _ => rfl
 | p :: l, h => by
  obtain ⟨k, e, hk⟩ := h p (List.mem_cons_self ..)
  show placeP (Go.Proofs.Ytcpkdjikembpnaa.put (zb m) p.1.toNat p.2) l = _
  rw [e, put_z hk]
  exact place_z l fun q hq => h q (List.mem_cons_of_mem _ hq)
theorem zero_store {T : List Tp} {lim : Int} {hs : List UInt8} : ∀ (N f t : Nat), OkV T t → t < N → t < f → storeP T lim N hs t (zeroV T f t) = .ok (hs, zb (sizT T t).toNat)
 | 0, _, _, _, h, _ => absurd h (Nat.not_lt_zero _)
 | _, 0, _, _, _, h => absurd h (Nat.not_lt_zero _)
 | N + 1, f + 1, t, ho, hN, hf => by
  have htl := ho.lt
  have hx := List.getElem?_eq_getElem htl
  have hpl := prt_len ho
  have hpi := fun q (a : q < (prtT T[t]).length) (b : q < (offsT T T[t]).length) => prt_in ho a b
  have hpn := fun a b => prt_nil ho a b
  have hs1 := fun e => ho.siz1 e
  have hs24 := fun e => ho.siz24 e
  have hs3 := fun e => ho.siz3 e
  have hs7 := fun e => ho.siz7 e
  rw [zeroV, hx]
  dsimp only
  rw [storeP_at hx]
  obtain ⟨x, hxx⟩ : ∃ x, T[t] = x := ⟨_, rfl⟩
  simp only [hxx] at hpl hpi hpn hs1 hs24 hs3 hs7 ⊢
  by_cases k1 : x.kd = 1
  ·rw [if_pos k1, hs1 k1]; rfl
  rw [if_neg k1]
  by_cases k2 : x.kd = 2
  ·rw [if_pos k2, hs24 (.inl k2), show IntKind.wrap .u64 0 = 0 from rfl, litP_z [0] (by simp)]; rfl
  rw [if_neg k2]
  by_cases k3 : x.kd = 3
  ·rw [if_pos k3, if_pos trivial, hs3 k3, litP_z [0, 0] (by simp)]; rfl
  rw [if_neg k3]
  by_cases k47 : x.kd = 4 ∨ x.kd = 7
  ·rw [if_pos k47, hpn (by omega) (by omega)]
   unfold tgtP
   rw [List.map_nil, if_pos rfl]
   rcases k47 with k4 | k7
   ·rw [hs24 (.inr k4), show ptrP x.kd 0 0 = [0] from by unfold ptrP; rw [if_pos k4], litP_z [0] (by simp)]; rfl
   ·rw [hs7 k7, show ptrP x.kd 0 0 = [0, 0, 0] from by unfold ptrP; rw [if_neg (by omega)], litP_z [0, 0, 0] (by simp)]; rfl
  rw [if_neg k47]
  have hc : catP (storeP T lim N) hs ((prtT x).zip ((prtT x).map fun p => zeroV T f p.toNat)) = .ok (hs, ((prtT x).zip ((prtT x).map fun p => zeroV T f p.toNat)).map fun p => zb (sizT T p.1.toNat).toNat) := by
   refine catP_const _ _ hs _ fun p hp => ?_
   obtain ⟨j, hj, rfl⟩ := List.getElem_of_mem hp
   rw [List.length_zip, List.length_map] at hj
   rw [List.getElem_zip, List.getElem_map]
   obtain ⟨y, hy, hyt, hoy, -⟩ := hpi j (by omega) (by omega)
   dsimp only
   rw [hy, Int.toNat_natCast]
   exact zero_store N f y hoy (by omega) (by omega)
  rw [hc]
  dsimp only
  congr 2
  refine place_z _ fun p hp => ?_
  obtain ⟨j, hj, rfl⟩ := List.getElem_of_mem hp
  rw [List.length_zip, List.length_map, List.length_zip, List.length_map] at hj
  rw [List.getElem_zip, List.getElem_map, List.getElem_zip]
  obtain ⟨y, hy, hyt, hoy, a, b⟩ := hpi j (by omega) (by omega)
  dsimp only
  have := hoy.bnd
  exact ⟨_, rfl, by rw [hy, Int.toNat_natCast]; omega⟩
theorem le_z (m : Nat) : le (zb m) = 0 := by
 unfold le zb
 induction m with
 | zero => rfl
 | succ m ih => rw [List.replicate_succ, List.foldr_cons, ih]; rfl
theorem word_z (m p : Nat) : wordV (zb m) p 8 = 0 := by
 unfold wordV
 rw [show ((zb m).drop p).take 8 = zb (min 8 (m - p)) from by unfold zb; rw [List.drop_replicate, List.take_replicate]]
 exact le_z _
theorem listP_const (g : List UInt8 → Nat → Except Int V) (bs : List UInt8) (f : Int × Int → V) : ∀ (l : List (Int × Int)), (∀ p ∈ l, g (bs.drop p.2.toNat) p.1.toNat = .ok (f p)) → listP g bs l = .ok (l.map f)
 | [], _ => rfl
 | p :: l, h => by
  unfold listP
  rw [h p (List.mem_cons_self ..)]
  dsimp only
  rw [listP_const g bs f l fun q hq => h q (List.mem_cons_of_mem _ hq)]
  rfl
theorem zero_load {T : List Tp} {L : List Rg} {dp : Nat} : ∀ (f g t m : Nat), OkV T t → t < f → t < g → sizT T t ≤ m → loadP T L f dp (zb m) t = .ok (zeroV T g t)
 | 0, _, _, _, _, h, _, _ => absurd h (Nat.not_lt_zero _)
 | _, 0, _, _, _, _, h, _ => absurd h (Nat.not_lt_zero _)
 | f + 1, g + 1, t, m, ho, hf, hg, hm => by
  have htl := ho.lt
  have hx := List.getElem?_eq_getElem htl
  have hpl := prt_len ho
  have hpi := fun q (a : q < (prtT T[t]).length) (b : q < (offsT T T[t]).length) => prt_in ho a b
  have hpn := fun a b => prt_nil ho a b
  have hpos := siz_pos (t + 1) ho (by omega)
  rw [loadP_at hx]
  rw [zeroV, hx]
  dsimp only
  obtain ⟨x, hxx⟩ : ∃ x, T[t] = x := ⟨_, rfl⟩
  simp only [hxx] at hpl hpi hpn ⊢
  by_cases k1 : x.kd = 1
  ·have h0 : (zb m).getD 0 0 = 0 := by
    obtain ⟨m, rfl⟩ : ∃ q, m = q + 1 := ⟨m - 1, by omega⟩
    rfl
   rw [if_pos k1, hpn (by omega) (by omega), h0, if_neg (by decide), k1]
   rfl
  rw [if_neg k1]
  by_cases k2 : x.kd = 2
  ·rw [if_pos k2, hpn (by omega) (by omega), word_z, k2]; rfl
  rw [if_neg k2]
  by_cases k3 : x.kd = 3
  ·rw [if_pos k3, hpn (by omega) (by omega), word_z, word_z, k3]
   rw [show textB L 0 0 = ([], 0) from by unfold textB; rw [if_neg (by decide), if_pos rfl]]
   rfl
  rw [if_neg k3]
  by_cases k4 : x.kd = 4
  ·rw [if_pos k4, hpn (by omega) (by omega), word_z, if_pos rfl, k4]; rfl
  rw [if_neg k4]
  by_cases k7 : x.kd = 7
  ·rw [if_pos k7, hpn (by omega) (by omega), k7]
   simp only [word_z]
   rfl
  rw [if_neg k7]
  have hc : listP (loadP T L f dp) (zb m) ((prtT x).zip (offsT T x)) = .ok (((prtT x).zip (offsT T x)).map fun p => zeroV T g p.1.toNat) := by
   refine listP_const _ _ _ _ fun p hp => ?_
   obtain ⟨j, hj, rfl⟩ := List.getElem_of_mem hp
   rw [List.length_zip] at hj
   rw [List.getElem_zip]
   obtain ⟨y, hy, hyt, hoy, a, b⟩ := hpi j (by omega) (by omega)
   dsimp only
   rw [hy, Int.toNat_natCast, show (zb m).drop (offsT T x)[j].toNat = zb (m - (offsT T x)[j].toNat) from by unfold zb; rw [List.drop_replicate]]
   exact zero_load f g y _ hoy (by omega) (by omega) (by omega)
  rw [hc]
  refine congrArg (fun l => Except.ok (V.mk x.kd 0 [] l false)) (?_ : ((prtT x).zip (offsT T x)).map (fun p => zeroV T g p.1.toNat) = (prtT x).map fun p => zeroV T g p.toNat)
  refine List.ext_getElem (by rw [List.length_map, List.length_map, List.length_zip]; omega) fun j h1 h2 => ?_
  rw [List.getElem_map, List.getElem_map, List.getElem_zip]
theorem zero_LoadR {T : List Tp} {t : Nat} (hE : okE T t = 0) (ho : OkV T t) {m c : Nat} {A : Option Addr} (hm : sizT T t = (m : Int)) (hm1 : 1 ≤ m) {dp : Int} (hd : 0 ≤ dp ∧ dp ≤ 3) : LoadR T [⟨64, zb m, A, c⟩] 64 t dp = .ok (zeroV T 1000 t) := by
 have hb := ho.bnd
 have hlt := ho.lt
 have hT := ho.chk.1
 have hal := (sizT_ok ho.chk ho.lt).2.2
 have hl := zb_length m
 unfold LoadR
 rw [if_neg (not_not_intro hE), if_neg (by omega)]
 have hL : lstE [(⟨64, zb m, A, c⟩ : Rg)] = 0 := by
  have hc : chkG (⟨64, zb m, A, c⟩ : Rg) = 0 := by
   unfold chkG chkR basedB
   dsimp only
   rw [if_pos ⟨rfl, by omega⟩]
  unfold lstE
  rw [if_neg (by simp), if_neg (not_not_intro fun g hg => by rw [List.mem_singleton.1 hg]; exact hc), if_neg]
  rintro ⟨i, j, hi, hj, -⟩
  simp at hi
  omega
 rw [if_neg (not_not_intro hL), Int.toNat_natCast, hm]
 have hf : fstI [(⟨64, zb m, A, c⟩ : Rg)] 64 m 0 = some 0 := by
  unfold fstI
  rw [if_pos]
  unfold inb
  simp only [decide_eq_true_eq]
  omega
 rw [hf]
 dsimp only
 have ha : ((64 : Int) % alnT T t) = 0 := by
  unfold alnT
  rcases hal with h | h
  ·rw [h]; rfl
  ·rw [h]; rfl
 rw [if_neg (not_not_intro ha)]
 show loadP T _ 1000 dp.toNat (((zb m).drop ((64 : Int) - 64).toNat).take (m : Int).toNat) t = _
 rw [show ((64 : Int) - 64).toNat = 0 from rfl, List.drop_zero, Int.toNat_natCast, List.take_of_length_le (by omega)]
 exact zero_load 1000 1000 t m ho (by omega) (by omega) (by omega)
end Go.Proofs.Ytcpkdjikembpnaa.Ce
