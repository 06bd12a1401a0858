/- Parts of the proof of ValueStores: Ji, Jv, Jo, Mc, Mv, Hj, Ip, Iq, Il. No condition of its own. -/
import Derived.Test.YtcpkdjikembpnaaVtah
import Derived.Test.YtcpkdjikembpnaaVtal
import Derived.Test.YtcpkdjikembpnaaVtam
import Derived.Test.YtcpkdjikembpnaaVtan
import Derived.Test.YtcpkdjikembpnaaVtap
import Derived.Test.YtcpkdjikembpnaaVtaq
import Derived.Test.YtcpkdjikembpnaaVtar
import Derived.Test.YtcpkdjikembpnaaVtau
import Derived.Test.YtcpkdjikembpnaaVtaw
import Derived.Test.YtcpkdjikembpnaaVtay
import Derived.Test.YtcpkdjikembpnaaVtaz
import Derived.Test.YtcpkdjikembpnaaVtba
set_option linter.unusedVariables false
set_option linter.unusedSimpArgs false
set_option maxRecDepth 100000
set_option maxHeartbeats 4000000
namespace Go.Proofs.Ytcpkdjikembpnaa.Ce
open Go.RowKit
structure Sub (F G : List Bool) : Prop where
 len : G.length = F.length
 mono : ∀ x : Nat, F[x]? = some true → G[x]? = some true
 cnt : G = F ∨ F.count true < G.count true
theorem Sub.rfl_ {F : List Bool} : Sub F F := ⟨rfl, fun _ h => h, .inl rfl⟩
theorem Sub.trans {F G H : List Bool} (a : Sub F G) (b : Sub G H) : Sub F H := by
 refine ⟨b.len.trans a.len, fun x h => b.mono x (a.mono x h), ?_⟩
 rcases a.cnt with h1 | h1 <;> rcases b.cnt with h2 | h2
 ·exact .inl (h2.trans h1)
 ·right; rw [h1] at h2; exact h2
 ·right; rw [h2]; exact h1
 ·right; omega
theorem set_true_same {F : List Bool} {y : Nat} (h : F[y]? = some true) : F.set y true = F := by
 refine List.ext_getElem? fun x => ?_
 rw [List.getElem?_set]
 by_cases e : y = x
 ·subst e
  rw [if_pos rfl, h]
  have : y < F.length := by
   rcases Nat.lt_or_ge y F.length with h1 | h1
   ·exact h1
   ·rw [List.getElem?_eq_none h1] at h; cases h
  rw [if_pos this]
 ·rw [if_neg e]
theorem Sub.set {F : List Bool} {y : Nat} (hy : y < F.length) : Sub F (F.set y true) := by
 refine ⟨List.length_set, fun x h => ?_, ?_⟩
 ·rw [List.getElem?_set]
  by_cases e : y = x
  ·rw [if_pos e, if_pos hy]
  ·rw [if_neg e]; exact h
 ·cases hb : F[y]
  ·right
   rw [List.count_set hy, hb]
   simp
  ·left
   exact set_true_same (by rw [List.getElem?_eq_getElem hy, hb])
theorem set_true_get {F : List Bool} {y : Nat} (hy : y < F.length) : (F.set y true)[y]? = some true := by rw [List.getElem?_set, if_pos rfl, if_pos hy]
def ClosedTo (T : List Tp) (F : List Bool) (k : Nat) : Prop := ∀ x (hx : x < T.length), x < k → F[x]? = some true → ∀ y : Nat, (y : Int) ∈ leadsT true T[x] → F[y]? = some true
def Snd (T : List Tp) (i : Nat) (F : List Bool) : Prop := ∀ x : Nat, F[x]? = some true → Rch T true i x
structure Out (T : List Tp) (i : Nat) (F : List Bool) (r : Nat) : Prop where
 len : F.length = T.length
 snd : Snd T i F
 st : F[i]? = some true
 ok : ClosedTo T F T.length ∨ r + 1 ≤ F.count true
structure Mid (T : List Tp) (i : Nat) (F G : List Bool) (r k : Nat) : Prop where
 out : Out T i F r
 sub : Sub F G
 snd : Snd T i G
 st : G[i]? = some true
 cl : G = F → ClosedTo T F k
 fx : ClosedTo T F T.length → G = F
structure Inn (T : List Tp) (i : Nat) (F G H : List Bool) (r k m : Nat) (ns : List Int) : Prop where
 mid : Mid T i F G r k
 sub : Sub G H
 snd : Snd T i H
 st : H[i]? = some true
 on : G[k]? = some true → ∀ y : Nat, (y : Int) ∈ ns.take m → H[y]? = some true
 off : G[k]? ≠ some true → H = G
 fx : ClosedTo T F T.length → H = F
theorem Out.init {T : List Tp} {i : Nat} (hi : i < T.length) : Out T i ((List.replicate T.length false).set i true) 0 := by
 have hl : i < (List.replicate T.length false).length := by rw [List.length_replicate]; exact hi
 refine ⟨by rw [List.length_set, List.length_replicate], fun x h => ?_, set_true_get hl, .inr ?_⟩
 ·rw [List.getElem?_set] at h
  by_cases e : i = x
  ·subst e; exact .refl
  ·rw [if_neg e, List.getElem?_replicate] at h
   split at h <;> cases h
 ·rw [List.count_set hl]
  simp
theorem Out.mid {T : List Tp} {i r : Nat} {F : List Bool} (h : Out T i F r) : Mid T i F F r 0 := ⟨h, Sub.rfl_, h.snd, h.st, fun _ x _ hx => absurd hx (by omega), fun _ => rfl⟩
theorem Mid.inn {T : List Tp} {i r k : Nat} {F G : List Bool} {ns : List Int} (h : Mid T i F G r k) : Inn T i F G G r k 0 ns := ⟨h, Sub.rfl_, h.snd, h.st, fun _ y hy => by simp at hy, fun _ => rfl, h.fx⟩
theorem Inn.len {T : List Tp} {i r k m : Nat} {F G H : List Bool} {ns : List Int} (h : Inn T i F G H r k m ns) : H.length = T.length := by rw [h.sub.len, h.mid.sub.len, h.mid.out.len]
theorem Inn.step {T : List Tp} {i r k m : Nat} {F G H : List Bool} {ns : List Int} (h : Inn T i F G H r k m ns) (hk : k < T.length) (hns : leadsT true T[k] = ns) (hm : m < ns.length) {y : Nat} (hy : ns[m] = (y : Int)) (hyl : y < T.length) (hHk : H[k]? = some true) : Inn T i F G (H.set y true) r k (m + 1) ns := by
 have hl := h.len
 have hyH : y < H.length := by omega
 have hs := Sub.set hyH
 have hG : G[k]? = some true := by
  rcases Classical.em (G[k]? = some true) with h1 | h1
  ·exact h1
  ·rw [h.off h1] at hHk; exact absurd hHk h1
 have hym : (y : Int) ∈ leadsT true T[k] := by rw [hns, ← hy]; exact List.getElem_mem _
 refine ⟨h.mid, h.sub.trans hs, fun x hx => ?_, hs.mono _ h.st, fun _ z hz => ?_, fun h1 => absurd hG h1, fun hc => ?_⟩
 ·rw [List.getElem?_set] at hx
  by_cases e : y = x
  ·subst e
   exact .step (h.snd k hHk) hk hym
  ·rw [if_neg e] at hx; exact h.snd x hx
 ·rw [List.take_succ_eq_append_getElem hm] at hz
  rcases List.mem_append.1 hz with hz | hz
  ·exact hs.mono _ (h.on hG z hz)
  ·have hz := List.mem_singleton.1 hz
   rw [hy] at hz
   obtain rfl : z = y := by omega
   exact set_true_get hyH
 ·have he := h.fx hc
  subst he
  exact set_true_same (hc k hk hk hHk y hym)
theorem Inn.next {T : List Tp} {i r k m : Nat} {F G H : List Bool} {ns : List Int} (h : Inn T i F G H r k m ns) (hk : k < T.length) (hns : leadsT true T[k] = ns) (hm : m = ns.length ∨ H[k]? ≠ some true) : Mid T i F H r (k + 1) := by
 refine ⟨h.mid.out, h.mid.sub.trans h.sub, h.snd, h.st, fun e => ?_, h.fx⟩
 have hGF : G = F := by
  rcases h.mid.sub.cnt with h1 | h1
  ·exact h1
  ·rcases h.sub.cnt with h2 | h2
   ·rw [← h2]; exact e
   ·rw [e] at h2; omega
 have hHG : H = G := by rw [e, hGF]
 intro x hx hxk hF y hy
 by_cases hxe : x = k
 ·subst hxe
  rcases hm with hm | hm
  ·rw [← e]
   refine h.on (by rw [hGF]; exact hF) y ?_
   rw [hm, List.take_length, ← hns]
   exact hy
  ·rw [e] at hm
   exact absurd hF hm
 ·exact h.mid.cl hGF x hx (by omega) hF y hy
theorem Mid.next {T : List Tp} {i r : Nat} {F G : List Bool} (h : Mid T i F G r T.length) : Out T i G (r + 1) := by
 refine ⟨by rw [h.sub.len, h.out.len], h.snd, h.st, ?_⟩
 rcases h.sub.cnt with h1 | h1
 ·left
  have := h.cl h1
  rw [h1]
  exact this
 ·rcases h.out.ok with h2 | h2
  ·rw [h.fx h2] at h1; exact absurd h1 (Nat.lt_irrefl _)
  ·right; omega
theorem Out.done {T : List Tp} {i : Nat} {F : List Bool} (hF : Fine T) (hi : i < T.length) (h : Out T i F T.length) : F = rchF T true i := by
 have hc : ClosedTo T F T.length := by
  rcases h.ok with h1 | h1
  ·exact h1
  ·have := List.count_le_length (a := true) (l := F)
   rw [h.len] at this
   omega
 exact rchF_eq hF hi h.len h.st (fun x _ hx => h.snd x hx) fun x hx h1 y hy => hc x hx hx h1 y hy
end Go.Proofs.Ytcpkdjikembpnaa.Ce
namespace Go.Proofs.Ytcpkdjikembpnaa.Ce
open Go.RowKit
def qv (ps : List (Int × Int)) : List Value := ps.flatMap fun p => [.int .i64 p.1, .int .i64 p.2]
variable (k d cl : Nat) (h : Hp) (n : Nat)
end Go.Proofs.Ytcpkdjikembpnaa.Ce
namespace Go.Proofs.Ytcpkdjikembpnaa.Ce
open Go.RowKit
variable (k d cl : Nat) (h : Hp) (n : Nat)
theorem rreached_ev (hk : 30000 ≤ k) (A : Option Addr) (T : List Tp) (c : Nat) (hT : TabH h n A T) (hl : T.length ≤ 32) (hF : Fine T) (i : Nat) (hi : i < T.length) :
  SQ k (d + 3) cl 58 [.slice A T.length c, .int .i64 i] h n (IntsV (reachL T i) h n) := by
 obtain ⟨tid, toff, hAA, htid, -⟩ := hT.at_ hi
 subst hAA
 obtain ⟨F0, hF0⟩ : ∃ F0, (List.replicate T.length false).set i true = F0 := ⟨_, rfl⟩
 have hov0 := bw_set (l := List.replicate T.length false) (i := i) (by rw [List.length_replicate]; exact hi)
 have hout := Out.init (T := T) hi
 rw [hF0] at hov0 hout
 refine enter Try.func58 (by kernel_rfl) rfl (by kernel_rfl) rfl rfl rfl ?_
 (repeat' first | refine zcd ?_ | intro K' hK | (with_reducible refine zn hK ?_; clear hK) | fail | ((with_reducible first | apply zo1 | apply zo2 | apply o_guard rfl | apply x_cond | apply k_e1 rfl | apply k_e2 rfl | apply k_e0 rfl | apply k_e3 rfl | apply k_e4 rfl); (case he => exact ez2 @mk_falses hov0); (try case hok => exact ezO); all_goals try (intro hb; (try simp only [hbs, reduceCtorEq] at hb); try exact ezX)) | ((with_reducible apply o_undef rfl); (case hb => exact ez0)))
 refine x_loopV [6, 7, 8, 9, 18, 19, 20, 21, 22, 23, 24, 25, 26, 27, 28, 29, 30, 31, 32, 33, 34, 35, 36, 37, 38, 39, 40, 41, 42, 43, 44, 45, 46, 47, 48, 49, 50, 51, 52] [6] (fun m vs h7 n7 => ∃ (r : Nat) (F : List Bool), m = T.length - r ∧ r ≤ T.length ∧ vs = [.int .i64 r] ∧ n + 1 ≤ n7 ∧ TabH h7 n (some ⟨tid, toff, none⟩) T ∧ rowOf h7 n = some (4, false, bw F) ∧ Out T i F r) T.length rfl (by omega) ?_ ?_
 ·exact ⟨0, F0, rfl, by omega, ez0, Nat.le_refl _, hT.set (Nat.le_refl _) _, rowOf_same _ _ _ _ _, hout⟩
 ·rintro m fr3 _ h7 n7 ⟨r, F, rfl, hr, rfl, hn7, hT7, qL7, hO⟩
  by_cases hrT : r < T.length
  ·(repeat' first | refine zcd ?_ | intro K' hK | (with_reducible refine zn hK ?_; clear hK) | fail | ((with_reducible first | apply zo1 | apply zo2 | apply o_guard rfl | apply x_cond | apply k_e1 rfl | apply k_e2 rfl | apply k_e0 rfl | apply k_e3 rfl | apply k_e4 rfl); (case he => exact ez0); (try case hok => exact ezO); all_goals try (intro hb; (try simp only [hbs, reduceCtorEq] at hb); try exact ezX)) | ((with_reducible apply o_undef rfl); (case hb => exact ez0)))
   refine x_loopV [7, 8, 9, 24, 25, 26, 27, 28, 29, 30, 31, 32, 33, 34, 35, 36, 37, 38, 39, 40, 41, 42, 43, 44, 45, 46, 47, 48, 49, 50, 51, 52] [7] (fun m vs h8 n8 => ∃ (x : Nat) (G : List Bool), m = T.length - x ∧ x ≤ T.length ∧ vs = [.int .i64 x] ∧ n + 1 ≤ n8 ∧ TabH h8 n (some ⟨tid, toff, none⟩) T ∧ rowOf h8 n = some (4, false, bw G) ∧ Mid T i F G r x) T.length rfl (by omega) ?_ ?_
   ·exact ⟨0, F, rfl, by omega, ez0, hn7, hT7, qL7, hO.mid⟩
   ·rintro m fr4 _ h8 n8 ⟨x, G, rfl, hx, rfl, hn8, hT8, qL8, hMd⟩
    by_cases hxT : x < T.length
    ·obtain ⟨_, _, hA2, -, ht4, -⟩ := hT8.at_ hxT
     injection hA2 with hA2
     injection hA2 with z1 z2
     subst z1
     subst z2
     have hfx := hF x hxT
     have pL := (rleads_ev k d n h8 n8 hk hfx ((hT8.fd _ (List.getElem_mem hxT)).more (by omega))).mono fun _ _ _ hh => IntsV.rd hh
     have hns := leadsT_in (far := true) hfx (by omega)
     have hnl := leadsT_len (far := true) hfx
     obtain ⟨ns, hnse⟩ : ∃ ns, leadsT true T[x] = ns := ⟨_, rfl⟩
     rw [hnse] at pL hns hnl
     (repeat' first | refine zcd ?_ | intro K' hK | (with_reducible refine zn hK ?_; clear hK) | ((with_reducible apply o_callF (g := 96) w_none); (case ha => exact ez0); (case hs => (exact pL)); (case' hk => rintro _ h' n' ⟨LA, lc, rfl, hrL, hLn, hn2, hkp⟩)) | ((with_reducible first | apply zo1 | apply zo2 | apply o_guard rfl | apply x_cond | apply k_e1 rfl | apply k_e2 rfl | apply k_e0 rfl | apply k_e3 rfl | apply k_e4 rfl); (case he => exact ez1 ht4); (try case hok => exact ezO); all_goals try (intro hb; (try simp only [hbs, reduceCtorEq] at hb); try exact ezX)) | ((with_reducible apply o_undef rfl); (case hb => exact ez0)))
     refine x_loopV [9, 35, 36, 37, 38, 39, 40, 41, 42, 43, 44, 45, 46, 47, 48, 49, 50, 51, 52] [9] (fun m vs h9 n9 => ∃ (s : Nat) (H : List Bool), m = ns.length - s ∧ s ≤ ns.length ∧ vs = [.int .i64 s] ∧ n9 = n' ∧ TabH h9 n (some ⟨tid, toff, none⟩) T ∧ RdH h9 n' LA (iv ns) ∧ rowOf h9 n = some (4, false, bw H) ∧ Inn T i F G H r x s ns) ns.length rfl (by omega) ?_ ?_
     ·exact ⟨0, G, rfl, by omega, ez0, rfl, hT8.keep (by omega) hkp, hrL, by rw [rowOf_keep (hkp _ (by omega))]; exact qL8, hMd.inn⟩
     ·rintro m fr5 _ h9 n9 ⟨s, H, rfl, hs, rfl, rfl, hT9, hrL9, qL9, hIn⟩
      have hHl := hIn.len
      have hHx : H[x]? = some (H[x]'(by omega)) := List.getElem?_eq_getElem (by omega)
      have cH := cellAt_row (off := x) qL9
      rw [bw_lget hHx] at cH
      obtain ⟨b, hb5⟩ : ∃ b, H[x]'(by omega) = b := ⟨_, rfl⟩
      rw [hb5] at cH hHx
      by_cases hsl : s < ns.length
      ·cases b
       ·have hnxt := hIn.next hxT hnse (.inr (by rw [hHx]; decide))
        (repeat' first | refine zcd ?_ | intro K' hK | (with_reducible refine zn hK ?_; clear hK) | fail | ((with_reducible first | apply zo1 | apply zo2 | apply o_guard rfl | apply x_cond | apply k_e1 rfl | apply k_e2 rfl | apply k_e0 rfl | apply k_e3 rfl | apply k_e4 rfl); (case he => exact ez1 cH); (try case hok => exact ezO); all_goals try (intro hb; (try simp only [hbs, reduceCtorEq] at hb); try exact ezX)) | ((with_reducible apply o_undef rfl); (case hb => exact ez0)))
        refine k_round (T.length - (x + 1)) (by omega) ⟨x + 1, H, rfl, by omega, ez0, by omega, hT9, qL9, hnxt⟩
       ·obtain ⟨lid, lof, hLA, -, cz⟩ := int_at hrL9 hsl
        subst hLA
        have hyb := hns ns[s] (List.getElem_mem _)
        obtain ⟨y, hy⟩ := Int.eq_ofNat_of_zero_le hyb.1
        rw [hy] at cz hyb
        have hstp := hIn.step hxT hnse hsl hy (by omega) hHx
        have w0 := rwOf_row qL9
        have hov := bw_set (l := H) (i := y) (by omega)
        have hLz := hLn lid lof rfl
        (repeat' first | refine zcd ?_ | intro K' hK | (with_reducible refine zn hK ?_; clear hK) | fail | ((with_reducible first | apply zo1 | apply zo2 | apply o_guard rfl | apply x_cond | apply k_e1 rfl | apply k_e2 rfl | apply k_e0 rfl | apply k_e3 rfl | apply k_e4 rfl); (case he => exact ez4 cH cz w0 hov); (try case hok => exact ezO); all_goals try (intro hb; (try simp only [hbs, reduceCtorEq] at hb); try exact ezX)) | ((with_reducible apply o_undef rfl); (case hb => exact ez0)))
        refine k_round (ns.length - (s + 1)) (by omega) ⟨s + 1, _, rfl, by omega, ez0, rfl, hT9.set (by omega) _, hrL9.kill (fun b o e => by injection e with e; injection e with e1; omega) _, rowOf_same _ _ _ _ _, hstp⟩
      ·obtain rfl : s = ns.length := by omega
       have hnxt := hIn.next hxT hnse (.inl rfl)
       (repeat' first | refine zcd ?_ | intro K' hK | (with_reducible refine zn hK ?_; clear hK) | fail | ((with_reducible first | apply zo1 | apply zo2 | apply o_guard rfl | apply x_cond | apply k_e1 rfl | apply k_e2 rfl | apply k_e0 rfl | apply k_e3 rfl | apply k_e4 rfl); (case he => exact ez1 cH); (try case hok => exact ezO); all_goals try (intro hb; (try simp only [hbs, reduceCtorEq] at hb); try exact ezX)) | ((with_reducible apply o_undef rfl); (case hb => exact ez0)))
       refine k_round (T.length - (x + 1)) (by omega) ⟨x + 1, H, rfl, by omega, ez0, by omega, hT9, qL9, hnxt⟩
    ·obtain rfl : x = T.length := by omega
     have hnxt := hMd.next
     (repeat' first | refine zcd ?_ | intro K' hK | (with_reducible refine zn hK ?_; clear hK) | fail | ((with_reducible first | apply zo1 | apply zo2 | apply o_guard rfl | apply x_cond | apply k_e1 rfl | apply k_e2 rfl | apply k_e0 rfl | apply k_e3 rfl | apply k_e4 rfl); (case he => exact ez0); (try case hok => exact ezO); all_goals try (intro hb; (try simp only [hbs, reduceCtorEq] at hb); try exact ezX)) | ((with_reducible apply o_undef rfl); (case hb => exact ez0)))
     refine k_round (T.length - (r + 1)) (by omega) ⟨r + 1, G, rfl, by omega, ez0, hn8, hT8, qL8, hnxt⟩
  ·obtain rfl : r = T.length := by omega
   have hFd := hO.done hF hi
   have hFl : F.length = T.length := hO.len
   unfold reachL
   rw [← hFd]
   clear hFd hO hout
   obtain ⟨g, hg⟩ : ∃ g : Nat → List Int, g = fun r => ((List.range r).filter fun x => F.getD x false).map fun (x : Nat) => (x : Int) := ⟨_, rfl⟩
   have hg1 : ∀ r, g (r + 1) = g r ++ if F.getD r false = true then [(r : Int)] else [] := fun r => by
    rw [hg]
    show ((List.range (r + 1)).filter _).map _ = _
    rw [List.range_succ, List.filter_append, List.map_append]
    congr 1
    by_cases hr : F.getD r false = true
    ·rw [if_pos hr, List.filter_cons_of_pos (p := fun x => F.getD x false) hr]; rfl
    ·rw [if_neg hr, List.filter_cons_of_neg (p := fun x => F.getD x false) hr]; rfl
   have hgl : ∀ r, (g r).length ≤ r := fun r => by
    rw [hg]
    show (((List.range r).filter _).map _).length ≤ r
    rw [List.length_map]
    have := List.length_filter_le (fun x => F.getD x false) (List.range r)
    rw [List.length_range] at this
    exact this
   have hge : ((List.range T.length).filter fun x => F.getD x false).map (fun (x : Nat) => (x : Int)) = g T.length := by rw [hg]
   rw [hge]
   (repeat' first | refine zcd ?_ | intro K' hK | (with_reducible refine zn hK ?_; clear hK) | fail | ((with_reducible first | apply zo1 | apply zo2 | apply o_guard rfl | apply x_cond | apply k_e1 rfl | apply k_e2 rfl | apply k_e0 rfl | apply k_e3 rfl | apply k_e4 rfl); (case he => exact ez0); (try case hok => exact ezO); all_goals try (intro hb; (try simp only [hbs, reduceCtorEq] at hb); try exact ezX)) | ((with_reducible apply o_undef rfl); (case hb => exact ez0)))
   refine x_loopV [10, 11, 53, 54, 55, 56, 57, 58, 59, 60, 61, 62, 63, 64, 65, 66] [10, 11] (fun m vs h4 n4 => ∃ (r : Nat) (O : Value), m = T.length - r ∧ r ≤ T.length ∧ vs = [O, .int .i64 r] ∧ n + 1 ≤ n4 ∧ rowOf h4 n = some (4, false, bw F) ∧ OwnI (g r) O h4 (n + 1) n4) T.length rfl (by omega) ?_ ?_
   ·exact ⟨0, .slice none 0 0, rfl, by omega, ez0, hn7, qL7, .inl ⟨by rw [hg]; rfl, rfl⟩⟩
   ·rintro m fr _ h4 n4 ⟨r, O, rfl, hr, rfl, hn4, p3, hO⟩
    by_cases hrs : r < T.length
    ·have hgr := hgl r
     have hnx := hg1 r
     have c3 := cellAt_row (off := r) p3
     rw [bw_lget (b := F.getD r false) (by rw [List.getD_eq_getElem?_getD, List.getElem?_eq_getElem (by omega)]; rfl)] at c3
     obtain ⟨acc, hacc⟩ : ∃ acc, g r = acc := ⟨_, rfl⟩
     rw [hacc] at hO hgr hnx
     cases hin : F.getD r false
     ·rw [hin] at c3 hnx
      rw [if_neg (by decide), List.append_nil] at hnx
      (repeat' first | refine zcd ?_ | intro K' hK | (with_reducible refine zn hK ?_; clear hK) | fail | ((with_reducible first | apply zo1 | apply zo2 | apply o_guard rfl | apply x_cond | apply k_e1 rfl | apply k_e2 rfl | apply k_e0 rfl | apply k_e3 rfl | apply k_e4 rfl); (case he => exact ez1 c3); (try case hok => exact ezO); all_goals try (intro hb; (try simp only [hbs, reduceCtorEq] at hb); try exact ezX)) | ((with_reducible apply o_undef rfl); (case hb => exact ez0)))
      refine k_round (T.length - (r + 1)) (by omega) ⟨r + 1, O, rfl, by omega, ez0, by omega, p3, by rw [hnx]; exact hO⟩
     ·rw [hin] at c3 hnx
      rw [if_pos rfl] at hnx
      rcases hO with ⟨hp0, rfl⟩ | ⟨hp0, id5, j1, j2, rfl, j3⟩
      ·(repeat' first | refine zcd ?_ | intro K' hK | (with_reducible refine zn hK ?_; clear hK) | ((with_reducible apply o_ap0 (t := 99) apT99 w_none); (case hs => exact ez0); (case hy => exact ez0); (case hsrc => exact src_row (rowOf_same _ _ _ _ _) rfl); (case hc => exact rfl); (case hm => omega); (case h0 => omega)) | ((with_reducible first | apply zo1 | apply zo2 | apply o_guard rfl | apply x_cond | apply k_e1 rfl | apply k_e2 rfl | apply k_e0 rfl | apply k_e3 rfl | apply k_e4 rfl); (case he => exact ez1 c3); (try case hok => exact ezO); all_goals try (intro hb; (try simp only [hbs, reduceCtorEq] at hb); try exact ezX)) | ((with_reducible apply o_undef rfl); (case hb => exact ez0)))
       refine k_round (T.length - (r + 1)) (by omega) ⟨r + 1, .slice (some ⟨n4 + 1, 0, none⟩) 1 1, rfl, by omega, ez0, by omega, by rw [rowOf_ne _ _ (by omega), rowOf_ne _ _ (by omega)]; exact p3, .inr ⟨?_, n4 + 1, by omega, by omega, ?_, ?_⟩⟩
       ·rw [hnx]; simp
       ·rw [hnx, hp0]; rfl
       ·rw [hnx, hp0]; exact rowOf_same _ _ _ _ _
      ·have w4 := rwOf_row j3
       have htk5 : (iv acc).take acc.length = iv acc := List.take_of_length_le (by rw [iv_length]; omega)
       (repeat' first | refine zcd ?_ | intro K' hK | (with_reducible refine zn hK ?_; clear hK) | ((with_reducible apply o_apR (t := 99) apT99 w_none); (case hs => exact ez1 w4); (case hy => exact ez1 w4); (case hsrc => exact src_row (rowOf_same _ _ _ _ _) rfl); (case hr => exact ez1 w4); (case hc => exact rfl); (case hm => omega); (case hli => omega); (case hln => omega); (case hcs => rw [iv_length]; omega)) | ((with_reducible first | apply zo1 | apply zo2 | apply o_guard rfl | apply x_cond | apply k_e1 rfl | apply k_e2 rfl | apply k_e0 rfl | apply k_e3 rfl | apply k_e4 rfl); (case he => exact ez2 c3 w4); (try case hok => exact ezO); all_goals try (intro hb; (try simp only [hbs, reduceCtorEq] at hb); try exact ezX)) | ((with_reducible apply o_undef rfl); (case hb => exact ez0)))
       refine k_round (T.length - (r + 1)) (by omega) ⟨r + 1, .slice (some ⟨n4 + 1, 0, none⟩) (acc.length + 1) (acc.length + 1), rfl, by omega, ez0, by omega, by rw [rowOf_ne _ _ (by omega), rowOf_ne _ _ (by omega), rowOf_ne _ _ (by omega)]; exact p3, .inr ⟨?_, n4 + 1, by omega, by omega, ?_, ?_⟩⟩
       ·rw [hnx]; simp
       ·rw [hnx, List.length_append]; rfl
       ·rw [hnx, iv_app1]
        exact ez1 htk5
    ·obtain rfl : r = T.length := by omega
     rcases hO with ⟨hp0, rfl⟩ | ⟨hp0, id5, j1, j2, rfl, j3⟩
     ·(repeat' first | refine zcd ?_ | intro K' hK | (with_reducible refine zn hK ?_; clear hK) | fail | ((with_reducible first | apply zo1 | apply zo2 | apply o_guard rfl | apply x_cond | apply k_e1 rfl | apply k_e2 rfl | apply k_e0 rfl | apply k_e3 rfl | apply k_e4 rfl); (case he => exact ez0); (try case hok => exact ezO); all_goals try (intro hb; (try simp only [hbs, reduceCtorEq] at hb); try exact ezX)) | ((with_reducible apply o_undef rfl); (case hb => exact ez0)))
      exact sw_flat rfl rfl (.inl ⟨hp0, rfl, rfl, rfl⟩)
     ·(repeat' first | refine zcd ?_ | intro K' hK | (with_reducible refine zn hK ?_; clear hK) | fail | ((with_reducible first | apply zo1 | apply zo2 | apply o_guard rfl | apply x_cond | apply k_e1 rfl | apply k_e2 rfl | apply k_e0 rfl | apply k_e3 rfl | apply k_e4 rfl); (case he => exact ez0); (try case hok => exact ezO); all_goals try (intro hb; (try simp only [hbs, reduceCtorEq] at hb); try exact ezX)) | ((with_reducible apply o_undef rfl); (case hb => exact ez0)))
      refine sw_row (m := id5) ezI rfl (by omega) j3 (iv_idA _ _) ezR ?_
      exact .inr ⟨hp0, rfl, rfl, rfl⟩
end Go.Proofs.Ytcpkdjikembpnaa.Ce
namespace Go.Proofs.Ytcpkdjikembpnaa.Ce
open Go.RowKit
variable (k d cl : Nat) (h : Hp) (n : Nat)
theorem rask5_ev (hk : 30000 ≤ k) (A : Option Addr) (T : List Tp) (c : Nat) (hT : TabH h n A T) (hS : ∀ t ∈ T, t.fs.length ≤ 20000) (hm : T.length ≤ 9223372036854775807) (i : Int) :
  SQ k (d + 8) cl 74 [.slice A T.length c, .int .i64 i] h n fun v h' n' => v = .int .i64 (szR 1000000 T i).2.2 ∧ h' = h ∧ n' = n := by
 by_cases hC : ChkT T
 ·by_cases hi : 0 ≤ i ∧ i < T.length
  ·have ha := askE_0 hC hi
   have hl := hC.1
   by_cases hb : 256 < ((eRow 1000000 T).at_ i).1
   ·have hz : (szR 1000000 T i).2.2 = 16 := by unfold szR; rw [if_pos hC, if_pos hi, if_pos hb]
    rw [hz]
    have hbg := hb
    have hEl := eRow_length 1000000 T
    obtain ⟨j, rfl⟩ := Int.eq_ofNat_of_zero_le hi.1
    obtain ⟨hge, hge1⟩ := sz_get (E := eRow 1000000 T) (j := j) (by omega)
    refine enter Try.func74 (by kernel_rfl) rfl (by kernel_rfl) rfl rfl rfl ?_
    (repeat' first | refine zcd ?_ | intro K' hK | (with_reducible refine zn hK ?_; clear hK) | ((with_reducible apply o_callF (g := 104) w_none); (case ha => exact ez0); (case hs => ((with_reducible apply rasked_ev (T := T)); (case hT => exact hT); (case hS => exact hS); (all_goals first | exact hk | omega))); (case' hk => rintro _ h' n' ⟨rfl, rfl, rfl⟩)) | ((with_reducible apply o_callF (g := 75) w_none); (case ha => exact ez0); (case hs => ((with_reducible apply rsizes_ev (T := T)); (case hT => first | exact hT | exact hT.set (by omega) _); (case hF => exact hC.2.1); (all_goals first | exact hk | omega))); (case' hk => rintro _ h' n' ⟨rfl, rfl, rfl⟩)) | ((with_reducible first | apply zo1 | apply zo2 | apply o_guard rfl | apply x_cond | apply k_e1 rfl | apply k_e2 rfl | apply k_e0 rfl | apply k_e3 rfl | apply k_e4 rfl); (case he => exact ez2 ha hge); (try case hok => exact ezO); all_goals try (intro hb; (try simp only [hbs, reduceCtorEq] at hb); try exact ezX)) | ((with_reducible apply o_undef rfl); (case hb => exact ez0)))
    all_goals exact sw_flat rfl rfl ⟨rfl, rfl, rfl⟩
   ·have hz : (szR 1000000 T i).2.2 = 0 := by unfold szR; rw [if_pos hC, if_pos hi, if_neg hb]
    rw [hz]
    have hbg := hb
    have hEl := eRow_length 1000000 T
    obtain ⟨j, rfl⟩ := Int.eq_ofNat_of_zero_le hi.1
    obtain ⟨hge, hge1⟩ := sz_get (E := eRow 1000000 T) (j := j) (by omega)
    refine enter Try.func74 (by kernel_rfl) rfl (by kernel_rfl) rfl rfl rfl ?_
    (repeat' first | refine zcd ?_ | intro K' hK | (with_reducible refine zn hK ?_; clear hK) | ((with_reducible apply o_callF (g := 104) w_none); (case ha => exact ez0); (case hs => ((with_reducible apply rasked_ev (T := T)); (case hT => exact hT); (case hS => exact hS); (all_goals first | exact hk | omega))); (case' hk => rintro _ h' n' ⟨rfl, rfl, rfl⟩)) | ((with_reducible apply o_callF (g := 75) w_none); (case ha => exact ez0); (case hs => ((with_reducible apply rsizes_ev (T := T)); (case hT => first | exact hT | exact hT.set (by omega) _); (case hF => exact hC.2.1); (all_goals first | exact hk | omega))); (case' hk => rintro _ h' n' ⟨rfl, rfl, rfl⟩)) | ((with_reducible first | apply zo1 | apply zo2 | apply o_guard rfl | apply x_cond | apply k_e1 rfl | apply k_e2 rfl | apply k_e0 rfl | apply k_e3 rfl | apply k_e4 rfl); (case he => exact ez2 ha hge); (try case hok => exact ezO); all_goals try (intro hb; (try simp only [hbs, reduceCtorEq] at hb); try exact ezX)) | ((with_reducible apply o_undef rfl); (case hb => exact ez0)))
    all_goals exact sw_flat rfl rfl ⟨rfl, rfl, rfl⟩
  ·have ha := askE_2 hC hi
   have hz : (szR 1000000 T i).2.2 = 2 := by unfold szR; rw [if_pos hC, if_neg hi]
   rw [hz]
   refine enter Try.func74 (by kernel_rfl) rfl (by kernel_rfl) rfl rfl rfl ?_
   (repeat' first | refine zcd ?_ | intro K' hK | (with_reducible refine zn hK ?_; clear hK) | ((with_reducible apply o_callF (g := 104) w_none); (case ha => exact ez0); (case hs => ((with_reducible apply rasked_ev (T := T)); (case hT => exact hT); (case hS => exact hS); (all_goals first | exact hk | omega))); (case' hk => rintro _ h' n' ⟨rfl, rfl, rfl⟩)) | ((with_reducible first | apply zo1 | apply zo2 | apply o_guard rfl | apply x_cond | apply k_e1 rfl | apply k_e2 rfl | apply k_e0 rfl | apply k_e3 rfl | apply k_e4 rfl); (case he => exact ez1 ha); (try case hok => exact ezO); all_goals try (intro hb; (try simp only [hbs, reduceCtorEq] at hb); try exact ezX)) | ((with_reducible apply o_undef rfl); (case hb => exact ez0)))
   all_goals exact sw_flat rfl rfl ⟨rfl, rfl, rfl⟩
 ·have ha := askE_8 (i := i) (j := i) hC
  have hz : (szR 1000000 T i).2.2 = 8 := by unfold szR; rw [if_neg hC]
  rw [hz]
  refine enter Try.func74 (by kernel_rfl) rfl (by kernel_rfl) rfl rfl rfl ?_
  (repeat' first | refine zcd ?_ | intro K' hK | (with_reducible refine zn hK ?_; clear hK) | ((with_reducible apply o_callF (g := 104) w_none); (case ha => exact ez0); (case hs => ((with_reducible apply rasked_ev (T := T)); (case hT => exact hT); (case hS => exact hS); (all_goals first | exact hk | omega))); (case' hk => rintro _ h' n' ⟨rfl, rfl, rfl⟩)) | ((with_reducible first | apply zo1 | apply zo2 | apply o_guard rfl | apply x_cond | apply k_e1 rfl | apply k_e2 rfl | apply k_e0 rfl | apply k_e3 rfl | apply k_e4 rfl); (case he => exact ez1 ha); (try case hok => exact ezO); all_goals try (intro hb; (try simp only [hbs, reduceCtorEq] at hb); try exact ezX)) | ((with_reducible apply o_undef rfl); (case hb => exact ez0)))
  all_goals exact sw_flat rfl rfl ⟨rfl, rfl, rfl⟩
end Go.Proofs.Ytcpkdjikembpnaa.Ce
namespace Go.Proofs.Ytcpkdjikembpnaa.Ce
open Go.RowKit
variable (k d cl : Nat) (h : Hp) (n : Nat)
theorem rsize_ev5 (hk : 30000 ≤ k) (A : Option Addr) (T : List Tp) (c : Nat) (hT : TabH h n A T) (hS : ∀ t ∈ T, t.fs.length ≤ 20000) (hm : T.length ≤ 9223372036854775807) (i : Int) :
  SQ k (d + 9) cl 42 [.slice A T.length c, .int .i64 i] h n fun v h' n' => v = .tuple ⟨[.int .i64 (szR 1000000 T i).1, .int .i64 (szR 1000000 T i).2.1, .int .i64 (szR 1000000 T i).2.2]⟩ ∧ h' = h ∧ n' = n := by
 by_cases hq : ChkT T ∧ (0 ≤ i ∧ i < T.length) ∧ ¬ 256 < ((eRow 1000000 T).at_ i).1
 ·obtain ⟨hC, hi, hb⟩ := hq
  have hz : szR 1000000 T i = (((eRow 1000000 T).at_ i).1, ((eRow 1000000 T).at_ i).2, 0) := by unfold szR; rw [if_pos hC, if_pos hi, if_neg hb]
  have hl := hC.1
  have hz2 : (szR 1000000 T i).2.2 = 0 := by rw [hz]
  rw [hz]
  have hEl := eRow_length 1000000 T
  obtain ⟨j, rfl⟩ := Int.eq_ofNat_of_zero_le hi.1
  obtain ⟨hge, hge1⟩ := sz_get (E := eRow 1000000 T) (j := j) (by omega)
  refine enter Try.func42 (by kernel_rfl) rfl (by kernel_rfl) rfl rfl rfl ?_
  (repeat' first | refine zcd ?_ | intro K' hK | (with_reducible refine zn hK ?_; clear hK) | ((with_reducible apply o_callF (g := 74) w_none); (case ha => exact ez0); (case hs => ((with_reducible apply rask5_ev (T := T)); (case hT => exact hT); (case hS => exact hS); (all_goals first | exact hk | omega))); (case' hk => rintro _ h' n' ⟨rfl, rfl, rfl⟩)) | ((with_reducible apply o_callF (g := 75) w_none); (case ha => exact ez0); (case hs => ((with_reducible apply rsizes_ev (T := T)); (case hT => first | exact hT | exact hT.set (by omega) _); (case hF => exact hC.2.1); (all_goals first | exact hk | omega))); (case' hk => rintro _ h' n' ⟨rfl, rfl, rfl⟩)) | (with_reducible refine x_drawnD (id := 5) [(3, 7)] (by kernel_rfl) fun K' hK => ?_) | ((with_reducible apply d_nil); (case hp => exact ezP); (case' hx => (refine hK _ _ _ ?_; clear hK))) | ((with_reducible apply d_pure w_none); (case hp => exact rfl); (case hc => exact rfl); (case he => exact ez2 hge hge1)) | ((with_reducible apply d_eff w_none); (case hc => exact rfl); (case he => exact ez2 hge hge1); (case hok => exact ezO)) | ((with_reducible apply d_guard rfl); (case hb => exact ez2 hge hge1); (case' h1 => intro hb; (try simp only [hbs, reduceCtorEq] at hb); try exact ezX); (case' h2 => intro hb; (try simp only [hbs, reduceCtorEq] at hb); try exact ezX)) | ((with_reducible first | apply zo1 | apply zo2 | apply o_guard rfl | apply x_cond | apply k_e1 rfl | apply k_e2 rfl | apply k_e0 rfl | apply k_e3 rfl | apply k_e4 rfl); (case he => exact ez3 hge hge1 hz2); (try case hok => exact ezO); all_goals try (intro hb; (try simp only [hbs, reduceCtorEq] at hb); try exact ezX)) | ((with_reducible apply o_undef rfl); (case hb => exact ez0)))
  all_goals exact sw_flat rfl rfl ⟨rfl, rfl, rfl⟩
 ·have hz : ∃ e, e ≠ 0 ∧ szR 1000000 T i = (0, 0, e) := by
   unfold szR
   by_cases hC : ChkT T
   ·rw [if_pos hC]
    by_cases hi : 0 ≤ i ∧ i < T.length
    ·rw [if_pos hi]
     by_cases hb : 256 < ((eRow 1000000 T).at_ i).1
     ·rw [if_pos hb]; exact ⟨16, by decide, rfl⟩
     ·exact absurd ⟨hC, hi, hb⟩ hq
    ·rw [if_neg hi]; exact ⟨2, by decide, rfl⟩
   ·rw [if_neg hC]; exact ⟨8, by decide, rfl⟩
  obtain ⟨e, he0, hz⟩ := hz
  have hz2 : (szR 1000000 T i).2.2 = e := by rw [hz]
  rw [hz]
  refine enter Try.func42 (by kernel_rfl) rfl (by kernel_rfl) rfl rfl rfl ?_
  (repeat' first | refine zcd ?_ | intro K' hK | (with_reducible refine zn hK ?_; clear hK) | ((with_reducible apply o_callF (g := 74) w_none); (case ha => exact ez0); (case hs => ((with_reducible apply rask5_ev (T := T)); (case hT => exact hT); (case hS => exact hS); (all_goals first | exact hk | omega))); (case' hk => rintro _ h' n' ⟨rfl, rfl, rfl⟩)) | ((with_reducible first | apply zo1 | apply zo2 | apply o_guard rfl | apply x_cond | apply k_e1 rfl | apply k_e2 rfl | apply k_e0 rfl | apply k_e3 rfl | apply k_e4 rfl); (case he => exact ez1 hz2); (try case hok => exact ezO); all_goals try (intro hb; (try simp only [hbs, reduceCtorEq] at hb); try exact ezX)) | ((with_reducible apply o_undef rfl); (case hb => exact ez0)))
  all_goals exact sw_flat rfl rfl ⟨rfl, rfl, rfl⟩
end Go.Proofs.Ytcpkdjikembpnaa.Ce
namespace Go.Proofs.Ytcpkdjikembpnaa.Ce
open Go.RowKit
variable (k d cl : Nat) (h : Hp) (n : Nat)
theorem rasked15_ev (hk : 30000 ≤ k) (A : Option Addr) (T : List Tp) (c : Nat) (hT : TabH h n A T) (hS : ∀ t ∈ T, t.fs.length ≤ 20000) (hm : T.length ≤ 9223372036854775807) (t : Int) :
  SQ k (d + 12) cl 36 [.slice A T.length c, .int .i64 t] h n fun v h' n' => v = .int .i64 (okE T t) ∧ h = h' ∧ n = n' := by
 have qs := fun (h6 : Hp) (n6 : Nat) (t : Int) (hT6 : TabH h6 n6 A T) => (rsize_ev5 k (d + 2) n h6 n6 hk A T c hT6 hS hm t).mono (Φ' := fun v h' n' => v = .tuple ⟨[.int .i64 (szR 1048576 T t).1, .int .i64 (szR 1048576 T t).2.1, .int .i64 (szR 1048576 T t).2.2]⟩ ∧ h6 = h' ∧ n6 = n') fun _ _ _ hp => ⟨by rw [hp.1, szR_eq], hp.2.1.symm, hp.2.2.symm⟩
 by_cases he : (szR 1048576 T t).2.2 = 0
 ·obtain ⟨hC, ht, -⟩ := szR_0 he
  obtain ⟨i, rfl⟩ := Int.eq_ofNat_of_zero_le ht.1
  have q1 := qs h n i hT
  rw [he] at q1
  have q2 := (rreached_ev k (d + 8) n h n hk A T c hT hC.1 hC.2.1 i (by omega)).mono (Φ' := IntsR (reachL T i) h n) fun _ _ _ hv => IntsV.rd hv
  have hrl := reach_len T i
  have hl := hC.1
  have hok0 : (∀ x ∈ reachL T i, (szR 1048576 T x).2.2 = 0) → okE T i = 0 := fun hb => by unfold okE; rw [if_neg (not_not_intro he), Int.toNat_natCast, if_pos hb]
  have hok1 : (¬ ∀ x ∈ reachL T i, (szR 1048576 T x).2.2 = 0) → okE T i = 16 := fun hb => by unfold okE; rw [if_neg (not_not_intro he), Int.toNat_natCast, if_neg hb]
  obtain ⟨rl, hrle⟩ : ∃ rl, reachL T i = rl := ⟨_, rfl⟩
  have hmem : ∀ x ∈ rl, 0 ≤ x ∧ x < T.length := fun x hx => by
   rw [← hrle] at hx
   obtain ⟨y, rfl, hy, -⟩ := reach_mem.1 hx
   omega
  rw [hrle] at q2 hrl hok0 hok1
  obtain ⟨E, hEe⟩ : ∃ E, okE T i = E := ⟨_, rfl⟩
  rw [hEe]
  refine enter Try.func36 (by kernel_rfl) rfl (by kernel_rfl) rfl rfl rfl ?_
  (repeat' first | refine zcd ?_ | intro K' hK | (with_reducible refine zn hK ?_; clear hK) | ((with_reducible apply o_callF (g := 42) w_none); (case ha => exact ez0); (case hs => (exact q1)); (case' hk => rintro _ h' n' ⟨rfl, rfl, rfl⟩)) | ((with_reducible apply o_callF (g := 58) w_none); (case ha => exact ez0); (case hs => (exact q2)); (case' hk => rintro _ h' n' ⟨RA, rc, rfl, hrR, hRn, hn2, hk2⟩)) | ((with_reducible first | apply zo1 | apply zo2 | apply o_guard rfl | apply x_cond | apply k_e1 rfl | apply k_e2 rfl | apply k_e0 rfl | apply k_e3 rfl | apply k_e4 rfl); (case he => exact ez0); (try case hok => exact ezO); all_goals try (intro hb; (try simp only [hbs, reduceCtorEq] at hb); try exact ezX)) | ((with_reducible apply o_undef rfl); (case hb => exact ez0)))
  refine x_loopF [4, 9, 10, 11, 12, 26, 27, 28, 29, 30, 31, 32, 33, 34, 35, 36, 37, 38, 39, 40, 41, 42, 43, 44] [9] (fun m vs => ∃ q : Nat, m = rl.length - q ∧ q ≤ rl.length ∧ vs = [.int .i64 q] ∧ ∀ x ∈ rl.take q, (szR 1048576 T x).2.2 = 0) rl.length rfl (by omega) ⟨0, rfl, by omega, ez0, by simp⟩ ?_
  rintro m g _ ⟨q, rfl, hq, rfl, hall⟩
  by_cases hql : q < rl.length
  ·obtain ⟨rid, rof, hRA, -, c1⟩ := int_at hrR hql
   subst hRA
   have hxm := hmem rl[q] (List.getElem_mem hql)
   obtain ⟨x, hx⟩ : ∃ x, rl[q] = x := ⟨_, rfl⟩
   rw [hx] at c1 hxm
   have q3 := qs h' n' x ((hT.keep (Nat.le_refl _) hk2).more hn2)
   by_cases hx0 : (szR 1048576 T x).2.2 = 0
   ·rw [hx0] at q3
    (repeat' first | refine zcd ?_ | intro K' hK | (with_reducible refine zn hK ?_; clear hK) | ((with_reducible apply o_callF (g := 42) w_none); (case ha => exact ez0); (case hs => (exact q3)); (case' hk => rintro _ h' n' ⟨rfl, rfl, rfl⟩)) | ((with_reducible first | apply zo1 | apply zo2 | apply o_guard rfl | apply x_cond | apply k_e1 rfl | apply k_e2 rfl | apply k_e0 rfl | apply k_e3 rfl | apply k_e4 rfl); (case he => exact ez1 c1); (try case hok => exact ezO); all_goals try (intro hb; (try simp only [hbs, reduceCtorEq] at hb); try exact ezX)) | ((with_reducible apply o_undef rfl); (case hb => exact ez0)))
    refine k_round (rl.length - (q + 1)) (by omega) ⟨⟨rfl, rfl⟩, q + 1, rfl, by omega, ez0, fun y hy => ?_⟩
    rw [List.take_succ_eq_append_getElem hql] at hy
    rcases List.mem_append.1 hy with hy | hy
    ·exact hall y hy
    ·obtain rfl := List.mem_singleton.1 hy
     rw [hx]
     exact hx0
   ·have h16 := szR_err hC hxm hx0
    have hE : E = 16 := by rw [← hEe, hok1 fun hh => hx0 (hh x (by rw [← hx]; exact List.getElem_mem hql))]
    rw [h16] at q3
    subst hE
    (repeat' first | refine zcd ?_ | intro K' hK | (with_reducible refine zn hK ?_; clear hK) | ((with_reducible apply o_callF (g := 42) w_none); (case ha => exact ez0); (case hs => (exact q3)); (case' hk => rintro _ h' n' ⟨rfl, rfl, rfl⟩)) | ((with_reducible first | apply zo1 | apply zo2 | apply o_guard rfl | apply x_cond | apply k_e1 rfl | apply k_e2 rfl | apply k_e0 rfl | apply k_e3 rfl | apply k_e4 rfl); (case he => exact ez1 c1); (try case hok => exact ezO); all_goals try (intro hb; (try simp only [hbs, reduceCtorEq] at hb); try exact ezX)) | ((with_reducible apply o_undef rfl); (case hb => exact ez0)))
    all_goals exact sw_flat rfl rfl ⟨rfl, rfl, rfl⟩
  ·obtain rfl : q = rl.length := by omega
   rw [List.take_length] at hall
   have hE : E = 0 := by rw [← hEe, hok0 hall]
   subst hE
   (repeat' first | refine zcd ?_ | intro K' hK | (with_reducible refine zn hK ?_; clear hK) | fail | ((with_reducible first | apply zo1 | apply zo2 | apply o_guard rfl | apply x_cond | apply k_e1 rfl | apply k_e2 rfl | apply k_e0 rfl | apply k_e3 rfl | apply k_e4 rfl); (case he => exact ez0); (try case hok => exact ezO); all_goals try (intro hb; (try simp only [hbs, reduceCtorEq] at hb); try exact ezX)) | ((with_reducible apply o_undef rfl); (case hb => exact ez0)))
   all_goals exact sw_flat rfl rfl ⟨rfl, rfl, rfl⟩
 ·have e : okE T t = (szR 1048576 T t).2.2 := by unfold okE; rw [if_pos he]
  rw [e]
  have q1 := qs h n t hT
  obtain ⟨E, hE⟩ : ∃ E, (szR 1048576 T t).2.2 = E := ⟨_, rfl⟩
  rw [hE] at q1 he ⊢
  refine enter Try.func36 (by kernel_rfl) rfl (by kernel_rfl) rfl rfl rfl ?_
  (repeat' first | refine zcd ?_ | intro K' hK | (with_reducible refine zn hK ?_; clear hK) | ((with_reducible apply o_callF (g := 42) w_none); (case ha => exact ez0); (case hs => (exact q1)); (case' hk => rintro _ h' n' ⟨rfl, rfl, rfl⟩)) | ((with_reducible first | apply zo1 | apply zo2 | apply o_guard rfl | apply x_cond | apply k_e1 rfl | apply k_e2 rfl | apply k_e0 rfl | apply k_e3 rfl | apply k_e4 rfl); (case he => exact ez0); (try case hok => exact ezO); all_goals try (intro hb; (try simp only [hbs, reduceCtorEq] at hb); try exact ezX)) | ((with_reducible apply o_undef rfl); (case hb => exact ez0)))
  all_goals exact sw_flat rfl rfl ⟨rfl, rfl, rfl⟩
end Go.Proofs.Ytcpkdjikembpnaa.Ce
namespace Go.Proofs.Ytcpkdjikembpnaa.Ce
open Go.RowKit
variable (k : Nat)
theorem rchk15_ev (d cl : Nat) (h : Hp) (n : Nat) (hk : 30000 ≤ k) (TA : Option Addr) (T : List Tp) (tc : Nat) (hT : TabH h n TA T) (hS : ∀ t ∈ T, t.fs.length ≤ 20000) (hm : T.length ≤ 9223372036854775807) (N : Nat) (t : Int) (v : V) (hb : Bd N v) (cs : List Value) (hv : VH h n v cs) :
  SQ k (d + N + 13) cl 22 [.slice TA T.length tc, .int .i64 t, .agg ⟨cs⟩] h n fun w h' n' => w = .int .i64 (chkV T N t v) ∧ h = h' ∧ n = n' := by
 have qa := fun (h6 : Hp) (n6 : Nat) (hT6 : TabH h6 n6 TA T) => rasked15_ev k (d + N) n h6 n6 hk TA T tc hT6 hS hm t
 obtain ⟨A1, cc1, rfl, -, -⟩ := hv.cut
 unfold chkV
 by_cases hE : okE T t = 0
 ·obtain ⟨x, rfl, ho⟩ := okE_0 hE
  rw [if_neg (not_not_intro hE), Int.toNat_natCast]
  simp only [hE] at qa
  have qf := fun (cl : Nat) (h6 : Hp) (n6 : Nat) (cs : List Value) (hT6 : TabH h6 n6 TA T) (hv6 : VH h6 n6 v cs) => rfits15_ev k hk TA T tc N x v 3 ho hb (by omega) (d + 2) cl h6 n6 cs hT6 hv6
  rw [show d + 2 + N + 10 = d + N + 12 from by omega] at qf
  have qf : ∀ (cl : Nat) (h6 : Hp) (n6 : Nat) (cs : List Value), TabH h6 n6 TA T → VH h6 n6 v cs → SQ k (d + N + 12) cl 52 [.slice TA T.length tc, .int .i64 x, .agg ⟨cs⟩, .int .i64 3] h6 n6 fun w h' n' => w = .bool (fitP T N x v 3) ∧ h6 = h' ∧ n6 = n' := qf
  obtain ⟨B, hB⟩ : ∃ B, fitP T N x v 3 = B := ⟨_, rfl⟩
  simp only [hB] at qf ⊢
  cases B
  all_goals
   refine enter Try.func22 (by kernel_rfl) rfl (by kernel_rfl) rfl rfl rfl ?_
   (repeat' first | refine zcd ?_ | intro K' hK | (with_reducible refine zn hK ?_; clear hK) | ((with_reducible apply o_callF (g := 36) w_none); (case ha => exact ez0); (case hs => ((with_reducible apply qa); exact ezT hT)); (case' hk => rintro _ h' n' ⟨rfl, rfl, rfl⟩)) | ((with_reducible apply o_callF (g := 52) w_none); (case ha => exact ez0); (case hs => ((with_reducible apply qf); (all_goals first | exact ezT hT | ((refine VH.more (B := n) ?_ (by omega)); (repeat' first | exact hv | refine VH.set ?_ (by omega) _))))); (case' hk => rintro _ h' n' ⟨rfl, rfl, rfl⟩)) | ((with_reducible first | apply zo1 | apply zo2 | apply o_guard rfl | apply x_cond | apply k_e1 rfl | apply k_e2 rfl | apply k_e0 rfl | apply k_e3 rfl | apply k_e4 rfl); (case he => exact ez0); (try case hok => exact ezO); all_goals try (intro hb; (try simp only [hbs, reduceCtorEq] at hb); try exact ezX)) | ((with_reducible apply o_undef rfl); (case hb => exact ez0)))
   all_goals exact sw_flat rfl rfl ⟨rfl, rfl, rfl⟩
 ·rw [if_pos hE]
  obtain ⟨E, hEe⟩ : ∃ E, okE T t = E := ⟨_, rfl⟩
  simp only [hEe] at qa hE ⊢
  refine enter Try.func22 (by kernel_rfl) rfl (by kernel_rfl) rfl rfl rfl ?_
  (repeat' first | refine zcd ?_ | intro K' hK | (with_reducible refine zn hK ?_; clear hK) | ((with_reducible apply o_callF (g := 36) w_none); (case ha => exact ez0); (case hs => ((with_reducible apply qa); exact ezT hT)); (case' hk => rintro _ h' n' ⟨rfl, rfl, rfl⟩)) | ((with_reducible apply o_callF (g := 52) w_none); (case ha => exact ez0); (case hs => ((with_reducible apply qf); (all_goals first | exact ezT hT | ((refine VH.more (B := n) ?_ (by omega)); (repeat' first | exact hv | refine VH.set ?_ (by omega) _))))); (case' hk => rintro _ h' n' ⟨rfl, rfl, rfl⟩)) | ((with_reducible first | apply zo1 | apply zo2 | apply o_guard rfl | apply x_cond | apply k_e1 rfl | apply k_e2 rfl | apply k_e0 rfl | apply k_e3 rfl | apply k_e4 rfl); (case he => exact ez0); (try case hok => exact ezO); all_goals try (intro hb; (try simp only [hbs, reduceCtorEq] at hb); try exact ezX)) | ((with_reducible apply o_undef rfl); (case hb => exact ez0)))
  all_goals exact sw_flat rfl rfl ⟨rfl, rfl, rfl⟩
def cntL (g : Nat → V → Nat) (m : Nat) : List V → Nat → Nat
 | [], n => n
 | e :: r, n => if n ≤ m then cntL g m r (n + g (m - n) e) else n
def cntF : Nat → Nat → V → Nat
 | 0, _, _ => 1
 | f + 1, m, v => cntL (cntF f) m v.l 1
theorem cntL_bnd (g : Nat → V → Nat) (m : Nat) (hg : ∀ m2 e, 1 ≤ g m2 e ∧ g m2 e ≤ m2 + 1) : ∀ (l : List V) (n : Nat), n ≤ m + 1 → n ≤ cntL g m l n ∧ cntL g m l n ≤ m + 1
 | [], n, h => ⟨Nat.le_refl _, h⟩
 | e :: r, n, h => by
  unfold cntL
  have := hg (m - n) e
  split
  ·have := cntL_bnd g m hg r (n + g (m - n) e) (by omega)
   omega
  ·omega
theorem cntF_bnd : ∀ (f m : Nat) (v : V), 1 ≤ cntF f m v ∧ cntF f m v ≤ m + 1
 | 0, m, v => ⟨Nat.le_refl _, by show 1 ≤ m + 1; omega⟩
 | f + 1, m, v => cntL_bnd (cntF f) m (fun m2 e => cntF_bnd f m2 e) v.l 1 (by omega)
theorem cntL_sz (f m : Nat) (hf : ∀ m2 e, m2 < f → cntF f m2 e ≤ m2 → e.sz = cntF f m2 e) (hm : m ≤ f) : ∀ (l : List V) (n : Nat), 1 ≤ n → cntL (cntF f) m l n ≤ m → n + V.szs l = cntL (cntF f) m l n
 | [], n, _, _ => rfl
 | e :: r, n, h1, h => by
  unfold cntL at h ⊢
  have hb := cntF_bnd f (m - n) e
  split at h
  ·rename_i hn
   rw [if_pos hn]
   have h2 := (cntL_bnd (cntF f) m (fun m2 e => cntF_bnd f m2 e) r (n + cntF f (m - n) e) (by omega)).1
   have h3 := cntL_sz f m hf hm r (n + cntF f (m - n) e) (by omega) h
   have h4 := hf (m - n) e (by omega) (by omega)
   have e1 : V.szs (e :: r) = e.sz + V.szs r := by rw [V.szs]
   omega
  ·omega
theorem cntF_sz : ∀ (f m : Nat) (v : V), m < f → cntF f m v ≤ m → v.sz = cntF f m v
 | 0, m, v, h, _ => by omega
 | f + 1, m, v, h, hc => by
  have := cntL_sz f m (fun m2 e a b => cntF_sz f m2 e a b) (by omega) v.l 1 (Nat.le_refl _) hc
  cases v with
  | mk kd i s l c =>
   show V.sz (.mk kd i s l c) = cntL (cntF f) m l 1
   unfold V.sz
   exact this
theorem cntL_drop (g : Nat → V → Nat) (m : Nat) (l : List V) (n : Nat) {q : Nat} (hq : q < l.length) : cntL g m (l.drop q) n = if n ≤ m then cntL g m (l.drop (q + 1)) (n + g (m - n) l[q]) else n := by
 rw [List.drop_eq_getElem_cons hq]
 rfl
theorem rcount_ev (hk : 30000 ≤ k) : ∀ (f m : Nat) (v : V), m < f → m ≤ 1000 → ∀ (d cl : Nat) (h : Hp) (n : Nat) (cs : List Value), VH h n v cs →
  SQ k (d + f) cl 17 [.agg ⟨cs⟩, .int .i64 m] h n fun w h' n' => w = .int .i64 (cntF f m v) ∧ h = h' ∧ n = n' := by
 intro f
 induction f with
 | zero => intro m v h; omega
 | succ f ih =>
 intro m v hmf hm d cl h n cs hv
 rw [show d + (f + 1) = d + f + 1 from by omega]
 obtain ⟨A1, cc1, rfl, hA1, hl1⟩ := hv.cut
 obtain ⟨vk, vi, vt, l, vc⟩ := v
 simp only [V.kd, V.i, V.s, V.l, V.c] at hl1 hv ⊢
 obtain ⟨R, hR⟩ : ∃ R, cntF (f + 1) m (.mk vk vi vt l vc) = R := ⟨_, rfl⟩
 rw [hR]
 have hR : cntL (cntF f) m l 1 = R := hR
 refine enter Try.func17 (by kernel_rfl) rfl (by kernel_rfl) rfl rfl rfl ?_
 (repeat' first | refine zcd ?_ | intro K' hK | (with_reducible refine zn hK ?_; clear hK) | fail | ((with_reducible first | apply zo1 | apply zo2 | apply o_guard rfl | apply x_cond | apply k_e1 rfl | apply k_e2 rfl | apply k_e0 rfl | apply k_e3 rfl | apply k_e4 rfl); (case he => exact ez0); (try case hok => exact ezO); all_goals try (intro hb; (try simp only [hbs, reduceCtorEq] at hb); try exact ezX)) | ((with_reducible apply o_undef rfl); (case hb => exact ez0)))
 refine x_loopF [5, 6, 7, 8, 9, 10, 11, 12, 13, 14, 15, 16, 17, 18, 19, 20, 21, 22, 23, 24, 25, 26, 27, 28, 29] [5, 6] (fun r vs => ∃ q c : Nat, r = m + 2 - c ∧ q ≤ l.length ∧ q < c ∧ c ≤ m + 1 ∧ vs = [.int .i64 c, .int .i64 q] ∧ cntL (cntF f) m (l.drop q) c = R) (m + 1) rfl (by omega) ⟨0, 1, rfl, by omega, by omega, by omega, ez0, by rw [List.drop_zero]; exact hR⟩ ?_
 rintro r g _ ⟨q, c, rfl, hq, hqc, hcm, rfl, hinv⟩
 by_cases hql : q < l.length
 ·by_cases hc : c ≤ m
  ·obtain ⟨id, off, A2, cc2, rfl, hid, c1, v1⟩ := hl1.at_ hql
   rw [cntL_drop _ _ _ _ hql, if_pos hc] at hinv
   have hb := cntF_bnd f (m - c) l[q]
   have qf := fun (cl : Nat) (h6 : Hp) (n6 : Nat) (cs : List Value) (hv6 : VH h6 n6 l[q] cs) => ih (m - c) l[q] (by omega) (by omega) d cl h6 n6 cs hv6
   obtain ⟨e, he⟩ : ∃ e, l[q] = e := ⟨_, rfl⟩
   rw [he] at hinv hb
   simp only [he] at c1 v1 qf
   obtain ⟨z, hz⟩ : ∃ z, cntF f (m - c) e = z := ⟨_, rfl⟩
   rw [hz] at hinv hb
   simp only [hz] at qf
   have hmc : (m : Int) - (c : Int) = ((m - c : Nat) : Int) := by omega
   (repeat' first | refine zcd ?_ | intro K' hK | (with_reducible refine zn hK ?_; clear hK) | ((with_reducible apply o_callF (g := 17) w_none); (case ha => exact ez0); (case hs => ((with_reducible apply qf); exact (v1.set (Nat.le_refl _) _).more (by omega))); (case' hk => rintro _ h' n' ⟨rfl, rfl, rfl⟩)) | ((with_reducible first | apply zo1 | apply zo2 | apply o_guard rfl | apply x_cond | apply k_e1 rfl | apply k_e2 rfl | apply k_e0 rfl | apply k_e3 rfl | apply k_e4 rfl); (case he => exact ez2 c1 hmc); (try case hok => exact ezO); all_goals try (intro hb; (try simp only [hbs, reduceCtorEq] at hb); try exact ezX)) | ((with_reducible apply o_undef rfl); (case hb => exact ez0)))
   refine k_round (m + 2 - (c + z)) (by omega) ⟨⟨rfl, rfl⟩, q + 1, c + z, rfl, by omega, by omega, by omega, ez0, hinv⟩
  ·rw [cntL_drop _ _ _ _ hql, if_neg hc] at hinv
   subst hinv
   (repeat' first | refine zcd ?_ | intro K' hK | (with_reducible refine zn hK ?_; clear hK) | fail | ((with_reducible first | apply zo1 | apply zo2 | apply o_guard rfl | apply x_cond | apply k_e1 rfl | apply k_e2 rfl | apply k_e0 rfl | apply k_e3 rfl | apply k_e4 rfl); (case he => exact ez0); (try case hok => exact ezO); all_goals try (intro hb; (try simp only [hbs, reduceCtorEq] at hb); try exact ezX)) | ((with_reducible apply o_undef rfl); (case hb => exact ez0)))
   all_goals exact sw_flat rfl rfl ⟨rfl, rfl, rfl⟩
 ·obtain rfl : q = l.length := by omega
  rw [List.drop_length] at hinv
  obtain rfl : c = R := hinv
  (repeat' first | refine zcd ?_ | intro K' hK | (with_reducible refine zn hK ?_; clear hK) | fail | ((with_reducible first | apply zo1 | apply zo2 | apply o_guard rfl | apply x_cond | apply k_e1 rfl | apply k_e2 rfl | apply k_e0 rfl | apply k_e3 rfl | apply k_e4 rfl); (case he => exact ez0); (try case hok => exact ezO); all_goals try (intro hb; (try simp only [hbs, reduceCtorEq] at hb); try exact ezX)) | ((with_reducible apply o_undef rfl); (case hb => exact ez0)))
  all_goals exact sw_flat rfl rfl ⟨rfl, rfl, rfl⟩
end Go.Proofs.Ytcpkdjikembpnaa.Ce
namespace Go.Proofs.Ytcpkdjikembpnaa.Ce
open Go.RowKit
theorem mk_bzq (m : Nat) : (List.replicate m [Value.int IntKind.u8 0]).flatten = bv (List.replicate m 0) := by unfold bv; rw [List.map_replicate]; induction m with | zero => rfl | succ m ih => rw [List.replicate_succ, List.flatten_cons, ih, List.replicate_succ]; rfl
theorem put_mid (A ys : List UInt8) (r : Nat) : Go.Proofs.Ytcpkdjikembpnaa.put (A ++ List.replicate (ys.length + r) 0) A.length ys = A ++ ys ++ List.replicate r 0 := by
 unfold Go.Proofs.Ytcpkdjikembpnaa.put
 rw [List.take_left, List.drop_append, List.drop_eq_nil_of_le (by omega), List.nil_append, List.drop_replicate, List.append_assoc]
 congr 3
 omega
variable (k d cl : Nat) (h : Hp) (n : Nat)
theorem words_ev (hk : 30000 ≤ k) (A : Option Addr) (ws : List Int) (c : Nat) (hr : RdH h n A (wv ws)) (hl : ws.length ≤ 1000) (hb : ∀ w ∈ ws, 0 ≤ w ∧ w < 18446744073709551616) :
  SQ k (d + 2) cl 86 [.slice A ws.length c] h n fun v h' n' => v = .slice (some ⟨n, 0, none⟩) (8 * ws.length) (8 * ws.length) ∧ h.set n (.row 5 false (bv (litP ws))) = h' ∧ n + 1 = n' := by
 obtain ⟨M, hM⟩ : ∃ M, 8 * ws.length = M := ⟨_, rfl⟩
 have hMi : (8 : Int) * (ws.length : Int) = (M : Int) := by omega
 rw [hM]
 refine enter Try.func86 (by kernel_rfl) rfl (by kernel_rfl) rfl rfl rfl ?_
 (repeat' first | refine zcd ?_ | intro K' hK | (with_reducible refine zn hK ?_; clear hK) | fail | ((with_reducible first | apply zo1 | apply zo2 | apply o_guard rfl | apply x_cond | apply k_e1 rfl | apply k_e2 rfl | apply k_e0 rfl | apply k_e3 rfl | apply k_e4 rfl); (case he => exact ez1 hMi); (try case hok => exact ezO); all_goals try (intro hb; (try simp only [hbs, reduceCtorEq] at hb); try exact ezX)) | ((with_reducible apply o_undef rfl); (case hb => exact ez0)))
 refine x_loopV [4, 10, 11, 12, 13, 14, 15, 16, 17, 18, 19, 20, 21, 22, 23, 24, 25] [4] (fun m vs h5 n5 => ∃ q : Nat, m = ws.length - q ∧ q ≤ ws.length ∧ vs = [.int .i64 q] ∧ n + 2 ≤ n5 ∧ (∀ b, b < n → h5.get b = h.get b) ∧ rowOf h5 n = some (5, false, bv (litP (ws.take q) ++ List.replicate (8 * (ws.length - q)) 0)) ∧ rowOf h5 (n + 1) = some (29, false, [.int .u64 8, .slice (some ⟨n, 0, none⟩) M M])) ws.length rfl (by omega) ?_ ?_
 ·refine ⟨0, rfl, by omega, ez0, by omega, ezN, ?_, ?_⟩
  ·rw [List.take_zero, Nat.sub_zero, hM, show litP [] = [] from rfl, List.nil_append, ← mk_bzq]
   exact ez0
  ·exact ez0
 ·rintro m g _ h5 n5 ⟨q, rfl, hq, rfl, hn5, hkp, rb, r3⟩
  have f3 := cellsAt_row (off := 0) (k := 2) r3
  have f31 := cellAt_row (off := 1) r3
  by_cases hqw : q < ws.length
  ·obtain ⟨id2, off2, rfl, hid2, hfa⟩ := ((hr.keep (Nat.le_refl _) hkp).at_ (by rw [wv_length]; omega))
   have hcw : cellAt h5 id2 (off2 + q) = some (.int .u64 ws[q]) := hfa q _ (by unfold wv; rw [List.getElem?_map, List.getElem?_eq_getElem hqw]; rfl)
   clear hfa
   have hw := hb _ (List.getElem_mem hqw)
   obtain ⟨w, hwe⟩ : ∃ w, ws[q] = w := ⟨_, rfl⟩
   rw [hwe] at hcw hw
   have htk : litP (ws.take (q + 1)) = litP (ws.take q) ++ toLE 8 w := by
    unfold litP
    rw [List.take_succ_eq_append_getElem hqw, List.flatMap_append, hwe]
    simp
   have hll := litP_length (ws.take q)
   rw [List.length_take] at hll
   obtain ⟨B, hB⟩ : ∃ B, litP (ws.take q) ++ List.replicate (8 * (ws.length - q)) 0 = B := ⟨_, rfl⟩
   have hBl : B.length = M := by rw [← hB, List.length_append, List.length_replicate]; omega
   have hput : Go.Proofs.Ytcpkdjikembpnaa.put B (8 * q) (toLE 8 w) = litP (ws.take (q + 1)) ++ List.replicate (8 * (ws.length - (q + 1))) 0 := by
    have h1 := put_mid (litP (ws.take q)) (toLE 8 w) (8 * (ws.length - (q + 1)))
    rw [toLE_length, show 8 + 8 * (ws.length - (q + 1)) = 8 * (ws.length - q) from by omega, hB, show (litP (ws.take q)).length = 8 * q from by omega] at h1
    rw [h1, htk]
   rw [hB] at rb
   obtain ⟨Q, hQ⟩ : ∃ Q, 8 * q = Q := ⟨_, rfl⟩
   have hQi : (8 : Int) * (q : Int) = (Q : Int) := by omega
   have hwq : IntKind.wrap .u64 (8 + (Q : Int)) = 8 + (Q : Int) := by rw [IntKind.wrap_u64]; omega
   rw [hQ] at hput
   have qs := (rset_ev k d n h5 n5 hk 8 n B M (8 + (Q : Int)) w rb (by omega) (Nat.le_refl _) (by omega) (by omega) (by omega) (by omega) (by omega) hw.1 hw.2).mono (Φ' := fun v h' n' => v = .tuple ⟨[]⟩ ∧ (h5.set n5 (.row 29 false [.int .u64 8, .slice (some ⟨n, 0, none⟩) M M])).set n (.row 5 false (bv (litP (ws.take (q + 1)) ++ List.replicate (8 * (ws.length - (q + 1))) 0))) = h' ∧ n5 + 1 = n') fun _ _ _ hp => ⟨hp.1, by rw [hp.2.1, hBl, show (8 + (Q : Int) - 8).toNat = Q from by omega, hput], hp.2.2.symm⟩
   rw [hBl] at qs
   (repeat' first | refine zcd ?_ | intro K' hK | (with_reducible refine zn hK ?_; clear hK) | (with_reducible refine x_drawnD (id := 5) [(0, 4), (0, 8), (4, 8)] (by kernel_rfl) fun K' hK => ?_) | ((with_reducible apply d_nil); (case hp => exact ezP); (case' hx => (refine hK _ _ _ ?_; clear hK))) | ((with_reducible apply d_pure w_none); (case hp => exact rfl); (case hc => exact rfl); (case he => exact ez4 f3 hQi hwq hcw)) | ((with_reducible apply d_eff w_none); (case hc => exact rfl); (case he => exact ez4 f3 hQi hwq hcw); (case hok => exact ezO)) | ((with_reducible apply d_guard rfl); (case hb => exact ez4 f3 hQi hwq hcw); (case' h1 => intro hb; (try simp only [hbs, reduceCtorEq] at hb); try exact ezX); (case' h2 => intro hb; (try simp only [hbs, reduceCtorEq] at hb); try exact ezX)) | ((with_reducible apply d_callS (g := 57) w_none); (case hs0 => exact rfl); (case ha => exact ez0); (case hs => (exact qs)); (case' hk => rintro _ h' n' ⟨rfl, rfl, rfl⟩)) | ((with_reducible apply d_callN (g := 57) w_none); (case hs0 => exact rfl); (case ha => exact ez0); (case hs => (exact qs)); (case' hk => rintro _ h' n' ⟨rfl, rfl, rfl⟩)) | ((with_reducible first | apply zo1 | apply zo2 | apply o_guard rfl | apply x_cond | apply k_e1 rfl | apply k_e2 rfl | apply k_e0 rfl | apply k_e3 rfl | apply k_e4 rfl); (case he => exact ez0); (try case hok => exact ezO); all_goals try (intro hb; (try simp only [hbs, reduceCtorEq] at hb); try exact ezX)) | ((with_reducible apply o_undef rfl); (case hb => exact ez0)))
   refine k_round (ws.length - (q + 1)) (by omega) ⟨q + 1, rfl, by omega, ez0, by omega, (ezB hkp), ?_, ?_⟩
   ·exact rowOf_same _ _ _ _ _
   ·exact ezW r3
  ·obtain rfl : q = ws.length := by omega
   rw [List.take_length, Nat.sub_self, Nat.mul_zero, List.replicate_zero, List.append_nil] at rb
   (repeat' first | refine zcd ?_ | intro K' hK | (with_reducible refine zn hK ?_; clear hK) | fail | ((with_reducible first | apply zo1 | apply zo2 | apply o_guard rfl | apply x_cond | apply k_e1 rfl | apply k_e2 rfl | apply k_e0 rfl | apply k_e3 rfl | apply k_e4 rfl); (case he => exact ez1 f31); (try case hok => exact ezO); all_goals try (intro hb; (try simp only [hbs, reduceCtorEq] at hb); try exact ezX)) | ((with_reducible apply o_undef rfl); (case hb => exact ez0)))
   refine sw_row (m := n) ezI rfl (by omega) rb (bv_idA _ _) ezR ?_
   exact ⟨rfl, rfl, rfl⟩
end Go.Proofs.Ytcpkdjikembpnaa.Ce
namespace Go.Proofs.Ytcpkdjikembpnaa.Ce
open Go.RowKit
def zb (m : Nat) : List UInt8 := List.replicate m 0
theorem toLE_z : toLE 8 0 = zb 8 := by decide +kernel
theorem litP_z : ∀ (l : List Int), (∀ w ∈ l, w = 0) → litP l = zb (8 * l.length)
 | [], _ => rfl
 | w :: l, h => by
  obtain rfl := h w (List.mem_cons_self ..)
  have := litP_z l fun w hw => h w (List.mem_cons_of_mem _ hw)
  unfold litP at *
  rw [List.flatMap_cons, this, toLE_z]
  unfold zb
  rw [List.replicate_append_replicate]
  congr 1
  simp
  omega
end Go.Proofs.Ytcpkdjikembpnaa.Ce
