/- Parts of the proof of ValueLoads: Jo, Mc, Mv, Gm, Gn. No condition of its own. -/
import Derived.Test.YtcpkdjikembpnaaVlan
import Derived.Test.YtcpkdjikembpnaaVlao
import Derived.Test.YtcpkdjikembpnaaVlaq
import Derived.Test.YtcpkdjikembpnaaVlar
import Derived.Test.YtcpkdjikembpnaaVlas
import Derived.Test.YtcpkdjikembpnaaVlav
import Derived.Test.YtcpkdjikembpnaaVlax
import Derived.Test.YtcpkdjikembpnaaVlaz
set_option linter.unusedVariables false
set_option linter.unusedSimpArgs false
set_option maxRecDepth 100000
set_option maxHeartbeats 4000000
namespace Go.Proofs.Ytcpkdjikembpnaa.Ce
open Go.RowKit
variable (k d cl : Nat) (h : Hp) (n : Nat)
theorem rreached_ev (hk : 30000 ≤ k) (A : Option Addr) (T : List Tp) (c : Nat) (hT : TabH h n A T) (hl : T.length ≤ 32) (hF : Fine T) (i : Nat) (hi : i < T.length) :
    SQ k (d + 3) cl 58 [.slice A T.length c, .int .i64 i] h n (IntsV (reachL T i) h n) := by
  obtain ⟨tid, toff, hAA, htid, -⟩ := hT.at_ hi
  subst hAA
  obtain ⟨F0, hF0⟩ : ∃ F0, (List.replicate T.length false).set i true = F0 := ⟨_, rfl⟩
  have hov0 := bw_set (l := List.replicate T.length false) (i := i) (by rw [List.length_replicate]; exact hi)
  have hout := Out.init (T := T) hi
  rw [hF0] at hov0 hout
  refine enter Try.func58 (by kernel_rfl) rfl (by kernel_rfl) rfl rfl rfl ?_
  (repeat' first | refine zcd ?_ | intro K' hK | (with_reducible refine zn hK ?_; clear hK) | fail | ((with_reducible first | apply zo1 | apply zo2 | apply o_guard rfl | apply x_cond | apply k_e1 rfl | apply k_e2 rfl | apply k_e0 rfl | apply k_e3 rfl | apply k_e4 rfl); (case he => exact ez2 @mk_falses hov0); (try case hok => exact ezO); all_goals try (intro hb; (try simp only [hbs, reduceCtorEq] at hb); try exact ezX)) | ((with_reducible apply o_undef rfl); (case hb => exact ez0)))
  refine x_loopV [6, 7, 8, 9, 18, 19, 20, 21, 22, 23, 24, 25, 26, 27, 28, 29, 30, 31, 32, 33, 34, 35, 36, 37, 38, 39, 40, 41, 42, 43, 44, 45, 46, 47, 48, 49, 50, 51, 52] [6] (fun m vs h7 n7 => ∃ (r : Nat) (F : List Bool), m = T.length - r ∧ r ≤ T.length ∧ vs = [.int .i64 r] ∧ n + 1 ≤ n7 ∧ TabH h7 n (some ⟨tid, toff, none⟩) T ∧ rowOf h7 n = some (4, false, bw F) ∧ Out T i F r) T.length rfl (by omega) ?_ ?_
  · exact ⟨0, F0, rfl, by omega, ez0, Nat.le_refl _, hT.set (Nat.le_refl _) _, rowOf_same _ _ _ _ _, hout⟩
  · rintro m fr3 _ h7 n7 ⟨r, F, rfl, hr, rfl, hn7, hT7, qL7, hO⟩
    by_cases hrT : r < T.length
    · (repeat' first | refine zcd ?_ | intro K' hK | (with_reducible refine zn hK ?_; clear hK) | fail | ((with_reducible first | apply zo1 | apply zo2 | apply o_guard rfl | apply x_cond | apply k_e1 rfl | apply k_e2 rfl | apply k_e0 rfl | apply k_e3 rfl | apply k_e4 rfl); (case he => exact ez0); (try case hok => exact ezO); all_goals try (intro hb; (try simp only [hbs, reduceCtorEq] at hb); try exact ezX)) | ((with_reducible apply o_undef rfl); (case hb => exact ez0)))
      refine x_loopV [7, 8, 9, 24, 25, 26, 27, 28, 29, 30, 31, 32, 33, 34, 35, 36, 37, 38, 39, 40, 41, 42, 43, 44, 45, 46, 47, 48, 49, 50, 51, 52] [7] (fun m vs h8 n8 => ∃ (x : Nat) (G : List Bool), m = T.length - x ∧ x ≤ T.length ∧ vs = [.int .i64 x] ∧ n + 1 ≤ n8 ∧ TabH h8 n (some ⟨tid, toff, none⟩) T ∧ rowOf h8 n = some (4, false, bw G) ∧ Mid T i F G r x) T.length rfl (by omega) ?_ ?_
      · exact ⟨0, F, rfl, by omega, ez0, hn7, hT7, qL7, hO.mid⟩
      · rintro m fr4 _ h8 n8 ⟨x, G, rfl, hx, rfl, hn8, hT8, qL8, hMd⟩
        by_cases hxT : x < T.length
        · obtain ⟨_, _, hA2, -, ht4, -⟩ := hT8.at_ hxT
          injection hA2 with hA2
          injection hA2 with z1 z2
          subst z1
          subst z2
          have hfx := hF x hxT
          have pL := (rleads_ev k d n h8 n8 hk hfx ((hT8.fd _ (List.getElem_mem hxT)).more (by omega))).mono fun _ _ _ hh => IntsV.rd hh
          have hns := leadsT_in (far := true) hfx (by omega)
          have hnl := leadsT_len (far := true) hfx
          obtain ⟨ns, hnse⟩ : ∃ ns, leadsT true T[x] = ns := ⟨_, rfl⟩
          rw [hnse] at pL hns hnl
          (repeat' first | refine zcd ?_ | intro K' hK | (with_reducible refine zn hK ?_; clear hK) | ((with_reducible apply o_callF (g := 96) w_none); (case ha => exact ez0); (case hs => (exact pL)); (case' hk => rintro _ h' n' ⟨LA, lc, rfl, hrL, hLn, hn2, hkp⟩)) | ((with_reducible first | apply zo1 | apply zo2 | apply o_guard rfl | apply x_cond | apply k_e1 rfl | apply k_e2 rfl | apply k_e0 rfl | apply k_e3 rfl | apply k_e4 rfl); (case he => exact ez1 ht4); (try case hok => exact ezO); all_goals try (intro hb; (try simp only [hbs, reduceCtorEq] at hb); try exact ezX)) | ((with_reducible apply o_undef rfl); (case hb => exact ez0)))
          refine x_loopV [9, 35, 36, 37, 38, 39, 40, 41, 42, 43, 44, 45, 46, 47, 48, 49, 50, 51, 52] [9] (fun m vs h9 n9 => ∃ (s : Nat) (H : List Bool), m = ns.length - s ∧ s ≤ ns.length ∧ vs = [.int .i64 s] ∧ n9 = n' ∧ TabH h9 n (some ⟨tid, toff, none⟩) T ∧ RdH h9 n' LA (iv ns) ∧ rowOf h9 n = some (4, false, bw H) ∧ Inn T i F G H r x s ns) ns.length rfl (by omega) ?_ ?_
          · exact ⟨0, G, rfl, by omega, ez0, rfl, hT8.keep (by omega) hkp, hrL, by rw [rowOf_keep (hkp _ (by omega))]; exact qL8, hMd.inn⟩
          · rintro m fr5 _ h9 n9 ⟨s, H, rfl, hs, rfl, rfl, hT9, hrL9, qL9, hIn⟩
            have hHl := hIn.len
            have hHx : H[x]? = some (H[x]'(by omega)) := List.getElem?_eq_getElem (by omega)
            have cH := cellAt_row (off := x) qL9
            rw [bw_lget hHx] at cH
            obtain ⟨b, hb5⟩ : ∃ b, H[x]'(by omega) = b := ⟨_, rfl⟩
            rw [hb5] at cH hHx
            by_cases hsl : s < ns.length
            · cases b
              · have hnxt := hIn.next hxT hnse (.inr (by rw [hHx]; decide))
                (repeat' first | refine zcd ?_ | intro K' hK | (with_reducible refine zn hK ?_; clear hK) | fail | ((with_reducible first | apply zo1 | apply zo2 | apply o_guard rfl | apply x_cond | apply k_e1 rfl | apply k_e2 rfl | apply k_e0 rfl | apply k_e3 rfl | apply k_e4 rfl); (case he => exact ez1 cH); (try case hok => exact ezO); all_goals try (intro hb; (try simp only [hbs, reduceCtorEq] at hb); try exact ezX)) | ((with_reducible apply o_undef rfl); (case hb => exact ez0)))
                refine k_round (T.length - (x + 1)) (by omega) ⟨x + 1, H, rfl, by omega, ez0, by omega, hT9, qL9, hnxt⟩
              · obtain ⟨lid, lof, hLA, -, cz⟩ := int_at hrL9 hsl
                subst hLA
                have hyb := hns ns[s] (List.getElem_mem _)
                obtain ⟨y, hy⟩ := Int.eq_ofNat_of_zero_le hyb.1
                rw [hy] at cz hyb
                have hstp := hIn.step hxT hnse hsl hy (by omega) hHx
                have w0 := rwOf_row qL9
                have hov := bw_set (l := H) (i := y) (by omega)
                have hLz := hLn lid lof rfl
                (repeat' first | refine zcd ?_ | intro K' hK | (with_reducible refine zn hK ?_; clear hK) | fail | ((with_reducible first | apply zo1 | apply zo2 | apply o_guard rfl | apply x_cond | apply k_e1 rfl | apply k_e2 rfl | apply k_e0 rfl | apply k_e3 rfl | apply k_e4 rfl); (case he => exact ez4 cH cz w0 hov); (try case hok => exact ezO); all_goals try (intro hb; (try simp only [hbs, reduceCtorEq] at hb); try exact ezX)) | ((with_reducible apply o_undef rfl); (case hb => exact ez0)))
                refine k_round (ns.length - (s + 1)) (by omega) ⟨s + 1, _, rfl, by omega, ez0, rfl, hT9.set (by omega) _, hrL9.kill (fun b o e => by injection e with e; injection e with e1; omega) _, rowOf_same _ _ _ _ _, hstp⟩
            · obtain rfl : s = ns.length := by omega
              have hnxt := hIn.next hxT hnse (.inl rfl)
              (repeat' first | refine zcd ?_ | intro K' hK | (with_reducible refine zn hK ?_; clear hK) | fail | ((with_reducible first | apply zo1 | apply zo2 | apply o_guard rfl | apply x_cond | apply k_e1 rfl | apply k_e2 rfl | apply k_e0 rfl | apply k_e3 rfl | apply k_e4 rfl); (case he => exact ez1 cH); (try case hok => exact ezO); all_goals try (intro hb; (try simp only [hbs, reduceCtorEq] at hb); try exact ezX)) | ((with_reducible apply o_undef rfl); (case hb => exact ez0)))
              refine k_round (T.length - (x + 1)) (by omega) ⟨x + 1, H, rfl, by omega, ez0, by omega, hT9, qL9, hnxt⟩
        · obtain rfl : x = T.length := by omega
          have hnxt := hMd.next
          (repeat' first | refine zcd ?_ | intro K' hK | (with_reducible refine zn hK ?_; clear hK) | fail | ((with_reducible first | apply zo1 | apply zo2 | apply o_guard rfl | apply x_cond | apply k_e1 rfl | apply k_e2 rfl | apply k_e0 rfl | apply k_e3 rfl | apply k_e4 rfl); (case he => exact ez0); (try case hok => exact ezO); all_goals try (intro hb; (try simp only [hbs, reduceCtorEq] at hb); try exact ezX)) | ((with_reducible apply o_undef rfl); (case hb => exact ez0)))
          refine k_round (T.length - (r + 1)) (by omega) ⟨r + 1, G, rfl, by omega, ez0, hn8, hT8, qL8, hnxt⟩
    · obtain rfl : r = T.length := by omega
      have hFd := hO.done hF hi
      have hFl : F.length = T.length := hO.len
      unfold reachL
      rw [← hFd]
      clear hFd hO hout
      obtain ⟨g, hg⟩ : ∃ g : Nat → List Int, g = fun r => ((List.range r).filter fun x => F.getD x false).map fun (x : Nat) => (x : Int) := ⟨_, rfl⟩
      have hg1 : ∀ r, g (r + 1) = g r ++ if F.getD r false = true then [(r : Int)] else [] := fun r => by
        rw [hg]
        show ((List.range (r + 1)).filter _).map _ = _
        rw [List.range_succ, List.filter_append, List.map_append]
        congr 1
        by_cases hr : F.getD r false = true
        · rw [if_pos hr, List.filter_cons_of_pos (p := fun x => F.getD x false) hr]; rfl
        · rw [if_neg hr, List.filter_cons_of_neg (p := fun x => F.getD x false) hr]; rfl
      have hgl : ∀ r, (g r).length ≤ r := fun r => by
        rw [hg]
        show (((List.range r).filter _).map _).length ≤ r
        rw [List.length_map]
        have := List.length_filter_le (fun x => F.getD x false) (List.range r)
        rw [List.length_range] at this
        exact this
      have hge : ((List.range T.length).filter fun x => F.getD x false).map (fun (x : Nat) => (x : Int)) = g T.length := by rw [hg]
      rw [hge]
      (repeat' first | refine zcd ?_ | intro K' hK | (with_reducible refine zn hK ?_; clear hK) | fail | ((with_reducible first | apply zo1 | apply zo2 | apply o_guard rfl | apply x_cond | apply k_e1 rfl | apply k_e2 rfl | apply k_e0 rfl | apply k_e3 rfl | apply k_e4 rfl); (case he => exact ez0); (try case hok => exact ezO); all_goals try (intro hb; (try simp only [hbs, reduceCtorEq] at hb); try exact ezX)) | ((with_reducible apply o_undef rfl); (case hb => exact ez0)))
      refine x_loopV [10, 11, 53, 54, 55, 56, 57, 58, 59, 60, 61, 62, 63, 64, 65, 66] [10, 11] (fun m vs h4 n4 => ∃ (r : Nat) (O : Value), m = T.length - r ∧ r ≤ T.length ∧ vs = [O, .int .i64 r] ∧ n + 1 ≤ n4 ∧ rowOf h4 n = some (4, false, bw F) ∧ OwnI (g r) O h4 (n + 1) n4) T.length rfl (by omega) ?_ ?_
      · exact ⟨0, .slice none 0 0, rfl, by omega, ez0, hn7, qL7, .inl ⟨by rw [hg]; rfl, rfl⟩⟩
      · rintro m fr _ h4 n4 ⟨r, O, rfl, hr, rfl, hn4, p3, hO⟩
        by_cases hrs : r < T.length
        · have hgr := hgl r
          have hnx := hg1 r
          have c3 := cellAt_row (off := r) p3
          rw [bw_lget (b := F.getD r false) (by rw [List.getD_eq_getElem?_getD, List.getElem?_eq_getElem (by omega)]; rfl)] at c3
          obtain ⟨acc, hacc⟩ : ∃ acc, g r = acc := ⟨_, rfl⟩
          rw [hacc] at hO hgr hnx
          cases hin : F.getD r false
          · rw [hin] at c3 hnx
            rw [if_neg (by decide), List.append_nil] at hnx
            (repeat' first | refine zcd ?_ | intro K' hK | (with_reducible refine zn hK ?_; clear hK) | fail | ((with_reducible first | apply zo1 | apply zo2 | apply o_guard rfl | apply x_cond | apply k_e1 rfl | apply k_e2 rfl | apply k_e0 rfl | apply k_e3 rfl | apply k_e4 rfl); (case he => exact ez1 c3); (try case hok => exact ezO); all_goals try (intro hb; (try simp only [hbs, reduceCtorEq] at hb); try exact ezX)) | ((with_reducible apply o_undef rfl); (case hb => exact ez0)))
            refine k_round (T.length - (r + 1)) (by omega) ⟨r + 1, O, rfl, by omega, ez0, by omega, p3, by rw [hnx]; exact hO⟩
          · rw [hin] at c3 hnx
            rw [if_pos rfl] at hnx
            rcases hO with ⟨hp0, rfl⟩ | ⟨hp0, id5, j1, j2, rfl, j3⟩
            · (repeat' first | refine zcd ?_ | intro K' hK | (with_reducible refine zn hK ?_; clear hK) | ((with_reducible apply o_ap0 (t := 99) apT99 w_none); (case hs => exact ez0); (case hy => exact ez0); (case hsrc => exact src_row (rowOf_same _ _ _ _ _) rfl); (case hc => exact rfl); (case hm => omega); (case h0 => omega)) | ((with_reducible first | apply zo1 | apply zo2 | apply o_guard rfl | apply x_cond | apply k_e1 rfl | apply k_e2 rfl | apply k_e0 rfl | apply k_e3 rfl | apply k_e4 rfl); (case he => exact ez1 c3); (try case hok => exact ezO); all_goals try (intro hb; (try simp only [hbs, reduceCtorEq] at hb); try exact ezX)) | ((with_reducible apply o_undef rfl); (case hb => exact ez0)))
              refine k_round (T.length - (r + 1)) (by omega) ⟨r + 1, .slice (some ⟨n4 + 1, 0, none⟩) 1 1, rfl, by omega, ez0, by omega, by rw [rowOf_ne _ _ (by omega), rowOf_ne _ _ (by omega)]; exact p3, .inr ⟨?_, n4 + 1, by omega, by omega, ?_, ?_⟩⟩
              · rw [hnx]; simp
              · rw [hnx, hp0]; rfl
              · rw [hnx, hp0]; exact rowOf_same _ _ _ _ _
            · have w4 := rwOf_row j3
              have htk5 : (iv acc).take acc.length = iv acc := List.take_of_length_le (by rw [iv_length]; omega)
              (repeat' first | refine zcd ?_ | intro K' hK | (with_reducible refine zn hK ?_; clear hK) | ((with_reducible apply o_apR (t := 99) apT99 w_none); (case hs => exact ez1 w4); (case hy => exact ez1 w4); (case hsrc => exact src_row (rowOf_same _ _ _ _ _) rfl); (case hr => exact ez1 w4); (case hc => exact rfl); (case hm => omega); (case hli => omega); (case hln => omega); (case hcs => rw [iv_length]; omega)) | ((with_reducible first | apply zo1 | apply zo2 | apply o_guard rfl | apply x_cond | apply k_e1 rfl | apply k_e2 rfl | apply k_e0 rfl | apply k_e3 rfl | apply k_e4 rfl); (case he => exact ez2 c3 w4); (try case hok => exact ezO); all_goals try (intro hb; (try simp only [hbs, reduceCtorEq] at hb); try exact ezX)) | ((with_reducible apply o_undef rfl); (case hb => exact ez0)))
              refine k_round (T.length - (r + 1)) (by omega) ⟨r + 1, .slice (some ⟨n4 + 1, 0, none⟩) (acc.length + 1) (acc.length + 1), rfl, by omega, ez0, by omega, by rw [rowOf_ne _ _ (by omega), rowOf_ne _ _ (by omega), rowOf_ne _ _ (by omega)]; exact p3, .inr ⟨?_, n4 + 1, by omega, by omega, ?_, ?_⟩⟩
              · rw [hnx]; simp
              · rw [hnx, List.length_append]; rfl
              · rw [hnx, iv_app1]
                exact ez1 htk5
        · obtain rfl : r = T.length := by omega
          rcases hO with ⟨hp0, rfl⟩ | ⟨hp0, id5, j1, j2, rfl, j3⟩
          · (repeat' first | refine zcd ?_ | intro K' hK | (with_reducible refine zn hK ?_; clear hK) | fail | ((with_reducible first | apply zo1 | apply zo2 | apply o_guard rfl | apply x_cond | apply k_e1 rfl | apply k_e2 rfl | apply k_e0 rfl | apply k_e3 rfl | apply k_e4 rfl); (case he => exact ez0); (try case hok => exact ezO); all_goals try (intro hb; (try simp only [hbs, reduceCtorEq] at hb); try exact ezX)) | ((with_reducible apply o_undef rfl); (case hb => exact ez0)))
            exact sw_flat rfl rfl (.inl ⟨hp0, rfl, rfl, rfl⟩)
          · (repeat' first | refine zcd ?_ | intro K' hK | (with_reducible refine zn hK ?_; clear hK) | fail | ((with_reducible first | apply zo1 | apply zo2 | apply o_guard rfl | apply x_cond | apply k_e1 rfl | apply k_e2 rfl | apply k_e0 rfl | apply k_e3 rfl | apply k_e4 rfl); (case he => exact ez0); (try case hok => exact ezO); all_goals try (intro hb; (try simp only [hbs, reduceCtorEq] at hb); try exact ezX)) | ((with_reducible apply o_undef rfl); (case hb => exact ez0)))
            refine sw_row (m := id5) ezI rfl (by omega) j3 (iv_idA _ _) ezR ?_
            exact .inr ⟨hp0, rfl, rfl, rfl⟩
end Go.Proofs.Ytcpkdjikembpnaa.Ce
namespace Go.Proofs.Ytcpkdjikembpnaa.Ce
open Go.RowKit
variable (k d cl : Nat) (h : Hp) (n : Nat)
theorem rask5_ev (hk : 30000 ≤ k) (A : Option Addr) (T : List Tp) (c : Nat) (hT : TabH h n A T) (hS : ∀ t ∈ T, t.fs.length ≤ 20000) (hm : T.length ≤ 9223372036854775807) (i : Int) :
    SQ k (d + 8) cl 74 [.slice A T.length c, .int .i64 i] h n fun v h' n' => v = .int .i64 (szR 1000000 T i).2.2 ∧ h' = h ∧ n' = n := by
  by_cases hC : ChkT T
  · by_cases hi : 0 ≤ i ∧ i < T.length
    · have ha := askE_0 hC hi
      have hl := hC.1
      by_cases hb : 256 < ((eRow 1000000 T).at_ i).1
      · have hz : (szR 1000000 T i).2.2 = 16 := by unfold szR; rw [if_pos hC, if_pos hi, if_pos hb]
        rw [hz]
        have hbg := hb
        have hEl := eRow_length 1000000 T
        obtain ⟨j, rfl⟩ := Int.eq_ofNat_of_zero_le hi.1
        obtain ⟨hge, hge1⟩ := sz_get (E := eRow 1000000 T) (j := j) (by omega)
        refine enter Try.func74 (by kernel_rfl) rfl (by kernel_rfl) rfl rfl rfl ?_
        (repeat' first | refine zcd ?_ | intro K' hK | (with_reducible refine zn hK ?_; clear hK) | ((with_reducible apply o_callF (g := 104) w_none); (case ha => exact ez0); (case hs => ((with_reducible apply rasked_ev (T := T)); (case hT => exact hT); (case hS => exact hS); (all_goals first | exact hk | omega))); (case' hk => rintro _ h' n' ⟨rfl, rfl, rfl⟩)) | ((with_reducible apply o_callF (g := 75) w_none); (case ha => exact ez0); (case hs => ((with_reducible apply rsizes_ev (T := T)); (case hT => first | exact hT | exact hT.set (by omega) _); (case hF => exact hC.2.1); (all_goals first | exact hk | omega))); (case' hk => rintro _ h' n' ⟨rfl, rfl, rfl⟩)) | ((with_reducible first | apply zo1 | apply zo2 | apply o_guard rfl | apply x_cond | apply k_e1 rfl | apply k_e2 rfl | apply k_e0 rfl | apply k_e3 rfl | apply k_e4 rfl); (case he => exact ez2 ha hge); (try case hok => exact ezO); all_goals try (intro hb; (try simp only [hbs, reduceCtorEq] at hb); try exact ezX)) | ((with_reducible apply o_undef rfl); (case hb => exact ez0)))
        all_goals exact sw_flat rfl rfl ⟨rfl, rfl, rfl⟩
      · have hz : (szR 1000000 T i).2.2 = 0 := by unfold szR; rw [if_pos hC, if_pos hi, if_neg hb]
        rw [hz]
        have hbg := hb
        have hEl := eRow_length 1000000 T
        obtain ⟨j, rfl⟩ := Int.eq_ofNat_of_zero_le hi.1
        obtain ⟨hge, hge1⟩ := sz_get (E := eRow 1000000 T) (j := j) (by omega)
        refine enter Try.func74 (by kernel_rfl) rfl (by kernel_rfl) rfl rfl rfl ?_
        (repeat' first | refine zcd ?_ | intro K' hK | (with_reducible refine zn hK ?_; clear hK) | ((with_reducible apply o_callF (g := 104) w_none); (case ha => exact ez0); (case hs => ((with_reducible apply rasked_ev (T := T)); (case hT => exact hT); (case hS => exact hS); (all_goals first | exact hk | omega))); (case' hk => rintro _ h' n' ⟨rfl, rfl, rfl⟩)) | ((with_reducible apply o_callF (g := 75) w_none); (case ha => exact ez0); (case hs => ((with_reducible apply rsizes_ev (T := T)); (case hT => first | exact hT | exact hT.set (by omega) _); (case hF => exact hC.2.1); (all_goals first | exact hk | omega))); (case' hk => rintro _ h' n' ⟨rfl, rfl, rfl⟩)) | ((with_reducible first | apply zo1 | apply zo2 | apply o_guard rfl | apply x_cond | apply k_e1 rfl | apply k_e2 rfl | apply k_e0 rfl | apply k_e3 rfl | apply k_e4 rfl); (case he => exact ez2 ha hge); (try case hok => exact ezO); all_goals try (intro hb; (try simp only [hbs, reduceCtorEq] at hb); try exact ezX)) | ((with_reducible apply o_undef rfl); (case hb => exact ez0)))
        all_goals exact sw_flat rfl rfl ⟨rfl, rfl, rfl⟩
    · have ha := askE_2 hC hi
      have hz : (szR 1000000 T i).2.2 = 2 := by unfold szR; rw [if_pos hC, if_neg hi]
      rw [hz]
      refine enter Try.func74 (by kernel_rfl) rfl (by kernel_rfl) rfl rfl rfl ?_
      (repeat' first | refine zcd ?_ | intro K' hK | (with_reducible refine zn hK ?_; clear hK) | ((with_reducible apply o_callF (g := 104) w_none); (case ha => exact ez0); (case hs => ((with_reducible apply rasked_ev (T := T)); (case hT => exact hT); (case hS => exact hS); (all_goals first | exact hk | omega))); (case' hk => rintro _ h' n' ⟨rfl, rfl, rfl⟩)) | ((with_reducible first | apply zo1 | apply zo2 | apply o_guard rfl | apply x_cond | apply k_e1 rfl | apply k_e2 rfl | apply k_e0 rfl | apply k_e3 rfl | apply k_e4 rfl); (case he => exact ez1 ha); (try case hok => exact ezO); all_goals try (intro hb; (try simp only [hbs, reduceCtorEq] at hb); try exact ezX)) | ((with_reducible apply o_undef rfl); (case hb => exact ez0)))
      all_goals exact sw_flat rfl rfl ⟨rfl, rfl, rfl⟩
  · have ha := askE_8 (i := i) (j := i) hC
    have hz : (szR 1000000 T i).2.2 = 8 := by unfold szR; rw [if_neg hC]
    rw [hz]
    refine enter Try.func74 (by kernel_rfl) rfl (by kernel_rfl) rfl rfl rfl ?_
    (repeat' first | refine zcd ?_ | intro K' hK | (with_reducible refine zn hK ?_; clear hK) | ((with_reducible apply o_callF (g := 104) w_none); (case ha => exact ez0); (case hs => ((with_reducible apply rasked_ev (T := T)); (case hT => exact hT); (case hS => exact hS); (all_goals first | exact hk | omega))); (case' hk => rintro _ h' n' ⟨rfl, rfl, rfl⟩)) | ((with_reducible first | apply zo1 | apply zo2 | apply o_guard rfl | apply x_cond | apply k_e1 rfl | apply k_e2 rfl | apply k_e0 rfl | apply k_e3 rfl | apply k_e4 rfl); (case he => exact ez1 ha); (try case hok => exact ezO); all_goals try (intro hb; (try simp only [hbs, reduceCtorEq] at hb); try exact ezX)) | ((with_reducible apply o_undef rfl); (case hb => exact ez0)))
    all_goals exact sw_flat rfl rfl ⟨rfl, rfl, rfl⟩
end Go.Proofs.Ytcpkdjikembpnaa.Ce
namespace Go.Proofs.Ytcpkdjikembpnaa.Ce
open Go.RowKit
variable (k d cl : Nat) (h : Hp) (n : Nat)
theorem rsize_ev5 (hk : 30000 ≤ k) (A : Option Addr) (T : List Tp) (c : Nat) (hT : TabH h n A T) (hS : ∀ t ∈ T, t.fs.length ≤ 20000) (hm : T.length ≤ 9223372036854775807) (i : Int) :
    SQ k (d + 9) cl 42 [.slice A T.length c, .int .i64 i] h n fun v h' n' => v = .tuple ⟨[.int .i64 (szR 1000000 T i).1, .int .i64 (szR 1000000 T i).2.1, .int .i64 (szR 1000000 T i).2.2]⟩ ∧ h' = h ∧ n' = n := by
  by_cases hq : ChkT T ∧ (0 ≤ i ∧ i < T.length) ∧ ¬ 256 < ((eRow 1000000 T).at_ i).1
  · obtain ⟨hC, hi, hb⟩ := hq
    have hz : szR 1000000 T i = (((eRow 1000000 T).at_ i).1, ((eRow 1000000 T).at_ i).2, 0) := by unfold szR; rw [if_pos hC, if_pos hi, if_neg hb]
    have hl := hC.1
    have hz2 : (szR 1000000 T i).2.2 = 0 := by rw [hz]
    rw [hz]
    have hEl := eRow_length 1000000 T
    obtain ⟨j, rfl⟩ := Int.eq_ofNat_of_zero_le hi.1
    obtain ⟨hge, hge1⟩ := sz_get (E := eRow 1000000 T) (j := j) (by omega)
    refine enter Try.func42 (by kernel_rfl) rfl (by kernel_rfl) rfl rfl rfl ?_
    (repeat' first | refine zcd ?_ | intro K' hK | (with_reducible refine zn hK ?_; clear hK) | ((with_reducible apply o_callF (g := 74) w_none); (case ha => exact ez0); (case hs => ((with_reducible apply rask5_ev (T := T)); (case hT => exact hT); (case hS => exact hS); (all_goals first | exact hk | omega))); (case' hk => rintro _ h' n' ⟨rfl, rfl, rfl⟩)) | ((with_reducible apply o_callF (g := 75) w_none); (case ha => exact ez0); (case hs => ((with_reducible apply rsizes_ev (T := T)); (case hT => first | exact hT | exact hT.set (by omega) _); (case hF => exact hC.2.1); (all_goals first | exact hk | omega))); (case' hk => rintro _ h' n' ⟨rfl, rfl, rfl⟩)) | (with_reducible refine x_drawnD (id := 5) [(3, 7)] (by kernel_rfl) fun K' hK => ?_) | ((with_reducible apply d_nil); (case hp => exact ezP); (case' hx => (refine hK _ _ _ ?_; clear hK))) | ((with_reducible apply d_pure w_none); (case hp => exact rfl); (case hc => exact rfl); (case he => exact ez2 hge hge1)) | ((with_reducible apply d_eff w_none); (case hc => exact rfl); (case he => exact ez2 hge hge1); (case hok => exact ezO)) | ((with_reducible apply d_guard rfl); (case hb => exact ez2 hge hge1); (case' h1 => intro hb; (try simp only [hbs, reduceCtorEq] at hb); try exact ezX); (case' h2 => intro hb; (try simp only [hbs, reduceCtorEq] at hb); try exact ezX)) | ((with_reducible first | apply zo1 | apply zo2 | apply o_guard rfl | apply x_cond | apply k_e1 rfl | apply k_e2 rfl | apply k_e0 rfl | apply k_e3 rfl | apply k_e4 rfl); (case he => exact ez3 hge hge1 hz2); (try case hok => exact ezO); all_goals try (intro hb; (try simp only [hbs, reduceCtorEq] at hb); try exact ezX)) | ((with_reducible apply o_undef rfl); (case hb => exact ez0)))
    all_goals exact sw_flat rfl rfl ⟨rfl, rfl, rfl⟩
  · have hz : ∃ e, e ≠ 0 ∧ szR 1000000 T i = (0, 0, e) := by
      unfold szR
      by_cases hC : ChkT T
      · rw [if_pos hC]
        by_cases hi : 0 ≤ i ∧ i < T.length
        · rw [if_pos hi]
          by_cases hb : 256 < ((eRow 1000000 T).at_ i).1
          · rw [if_pos hb]; exact ⟨16, by decide, rfl⟩
          · exact absurd ⟨hC, hi, hb⟩ hq
        · rw [if_neg hi]; exact ⟨2, by decide, rfl⟩
      · rw [if_neg hC]; exact ⟨8, by decide, rfl⟩
    obtain ⟨e, he0, hz⟩ := hz
    have hz2 : (szR 1000000 T i).2.2 = e := by rw [hz]
    rw [hz]
    refine enter Try.func42 (by kernel_rfl) rfl (by kernel_rfl) rfl rfl rfl ?_
    (repeat' first | refine zcd ?_ | intro K' hK | (with_reducible refine zn hK ?_; clear hK) | ((with_reducible apply o_callF (g := 74) w_none); (case ha => exact ez0); (case hs => ((with_reducible apply rask5_ev (T := T)); (case hT => exact hT); (case hS => exact hS); (all_goals first | exact hk | omega))); (case' hk => rintro _ h' n' ⟨rfl, rfl, rfl⟩)) | ((with_reducible first | apply zo1 | apply zo2 | apply o_guard rfl | apply x_cond | apply k_e1 rfl | apply k_e2 rfl | apply k_e0 rfl | apply k_e3 rfl | apply k_e4 rfl); (case he => exact ez1 hz2); (try case hok => exact ezO); all_goals try (intro hb; (try simp only [hbs, reduceCtorEq] at hb); try exact ezX)) | ((with_reducible apply o_undef rfl); (case hb => exact ez0)))
    all_goals exact sw_flat rfl rfl ⟨rfl, rfl, rfl⟩
end Go.Proofs.Ytcpkdjikembpnaa.Ce
namespace Go.Proofs.Ytcpkdjikembpnaa.Ce
open Go.RowKit
open Classical in
noncomputable def okE (T : List Tp) (t : Int) : Int := if (szR 1048576 T t).2.2 ≠ 0 then (szR 1048576 T t).2.2 else if ∀ x ∈ reachL T t.toNat, (szR 1048576 T x).2.2 = 0 then 0 else 16
theorem szR_0 {T : List Tp} {t : Int} (h : (szR 1048576 T t).2.2 = 0) : ChkT T ∧ (0 ≤ t ∧ t < T.length) ∧ ((eRow 1048576 T).at_ t).1 ≤ 256 := by
  unfold szR at h
  split at h
  · split at h
    · split at h
      · cases h
      · exact ⟨‹_›, ‹_›, by omega⟩
    · cases h
  · cases h
theorem szR_err {T : List Tp} {t : Int} (hC : ChkT T) (ht : 0 ≤ t ∧ t < T.length) (h : (szR 1048576 T t).2.2 ≠ 0) : (szR 1048576 T t).2.2 = 16 := by
  unfold szR at h ⊢
  rw [if_pos hC, if_pos ht] at h ⊢
  split at h
  · rename_i hb; rw [if_pos hb]
  · exact absurd rfl h
theorem okE_0 {T : List Tp} {t : Int} (h : okE T t = 0) : ∃ x : Nat, t = (x : Int) ∧ OkV T x := by
  unfold okE at h
  split at h
  · contradiction
  · rename_i h1
    split at h
    · rename_i h2
      obtain ⟨hC, ht, hs⟩ := szR_0 (Classical.not_not.1 h1)
      obtain ⟨x, rfl⟩ := Int.eq_ofNat_of_zero_le ht.1
      refine ⟨x, rfl, hC, by omega, fun y hy => ?_⟩
      rw [Int.toNat_natCast] at h2
      have := h2 (y : Int) (reach_mem.2 ⟨y, rfl, hy.lt hC.2.1 (by omega), hy⟩)
      exact (szR_0 this).2.2
    · cases h
variable (k d cl : Nat) (h : Hp) (n : Nat)
theorem vcheck_ev (hk : 30000 ≤ k) (A : Option Addr) (T : List Tp) (c : Nat) (hT : TabH h n A T) (hS : ∀ t ∈ T, t.fs.length ≤ 20000) (hm : T.length ≤ 9223372036854775807) (t : Int) :
    SQ k (d + 10) cl 37 [.slice A T.length c, .int .i64 t] h n fun v h' n' => (∃ z : Int, v = .tuple ⟨[.int .i64 z, .int .i64 (okE T t)]⟩) ∧ h' = h ∧ n' = n := by
  have qs := fun (h6 : Hp) (n6 : Nat) (t : Int) (hT6 : TabH h6 n6 A T) => (lsize_ev k (d + 1) n h6 n6 hk A T c hT6 hS hm t).mono (Φ' := fun v h' n' => v = .tuple ⟨[.int .i64 (szR 1048576 T t).1, .int .i64 (szR 1048576 T t).2.1, .int .i64 (szR 1048576 T t).2.2]⟩ ∧ h6 = h' ∧ n6 = n') fun _ _ _ hp => ⟨hp.1, hp.2.1.symm, hp.2.2.symm⟩
  by_cases he : (szR 1048576 T t).2.2 = 0
  · obtain ⟨hC, ht, -⟩ := szR_0 he
    obtain ⟨i, rfl⟩ := Int.eq_ofNat_of_zero_le ht.1
    have q1 := qs h n i hT
    rw [he] at q1
    have q2 := (preach_ok k (d + 1) n h n hk A T c hT hS hm hC i (by omega)).mono (Φ' := fun v h' n' => ∃ V, v = .tuple ⟨[V, .int .i64 0]⟩ ∧ IntsR (reachL T i) h n V h' n') fun _ _ _ ⟨V, e, hv⟩ => ⟨V, e, IntsV.rd hv⟩
    have hrl := reach_len T i
    have hl := hC.1
    have hok0 : (∀ x ∈ reachL T i, (szR 1048576 T x).2.2 = 0) → okE T i = 0 := fun hb => by unfold okE; rw [if_neg (not_not_intro he), Int.toNat_natCast, if_pos hb]
    have hok1 : (¬ ∀ x ∈ reachL T i, (szR 1048576 T x).2.2 = 0) → okE T i = 16 := fun hb => by unfold okE; rw [if_neg (not_not_intro he), Int.toNat_natCast, if_neg hb]
    obtain ⟨rl, hrle⟩ : ∃ rl, reachL T i = rl := ⟨_, rfl⟩
    have hmem : ∀ x ∈ rl, 0 ≤ x ∧ x < T.length := fun x hx => by
      rw [← hrle] at hx
      obtain ⟨y, rfl, hy, -⟩ := reach_mem.1 hx
      omega
    rw [hrle] at q2 hrl hok0 hok1
    obtain ⟨E, hEe⟩ : ∃ E, okE T i = E := ⟨_, rfl⟩
    rw [hEe]
    refine enter Try.func37 (by kernel_rfl) rfl (by kernel_rfl) rfl rfl rfl ?_
    (repeat' first | refine zcd ?_ | intro K' hK | (with_reducible refine zn hK ?_; clear hK) | ((with_reducible apply o_callF (g := 27) w_none); (case ha => exact ez0); (case hs => (exact q1)); (case' hk => rintro _ h' n' ⟨rfl, rfl, rfl⟩)) | ((with_reducible apply o_callF (g := 59) w_none); (case ha => exact ez0); (case hs => (exact q2)); (case' hk => rintro _ h' n' ⟨V, rfl, RA, rc, rfl, hrR, hRn, hn2, hk2⟩)) | ((with_reducible first | apply zo1 | apply zo2 | apply o_guard rfl | apply x_cond | apply k_e1 rfl | apply k_e2 rfl | apply k_e0 rfl | apply k_e3 rfl | apply k_e4 rfl); (case he => exact ez0); (try case hok => exact ezO); all_goals try (intro hb; (try simp only [hbs, reduceCtorEq] at hb); try exact ezX)) | ((with_reducible apply o_undef rfl); (case hb => exact ez0)))
    refine x_loopF [4, 5, 12, 13, 14, 15, 34, 35, 36, 37, 38, 39, 40, 41, 42, 43, 44, 45, 46, 47, 48] [34] (fun m vs => ∃ q : Nat, m = rl.length - q ∧ q ≤ rl.length ∧ vs = [.int .i64 q] ∧ ∀ x ∈ rl.take q, (szR 1048576 T x).2.2 = 0) rl.length rfl (by omega) ⟨0, rfl, by omega, ez0, by simp⟩ ?_
    rintro m g _ ⟨q, rfl, hq, rfl, hall⟩
    by_cases hql : q < rl.length
    · obtain ⟨rid, rof, hRA, -, c1⟩ := int_at hrR hql
      subst hRA
      have hxm := hmem rl[q] (List.getElem_mem hql)
      obtain ⟨x, hx⟩ : ∃ x, rl[q] = x := ⟨_, rfl⟩
      rw [hx] at c1 hxm
      have q3 := qs h' n' x ((hT.keep (Nat.le_refl _) hk2).more hn2)
      by_cases hx0 : (szR 1048576 T x).2.2 = 0
      · rw [hx0] at q3
        (repeat' first | refine zcd ?_ | intro K' hK | (with_reducible refine zn hK ?_; clear hK) | ((with_reducible apply o_callF (g := 27) w_none); (case ha => exact ez0); (case hs => (exact q3)); (case' hk => rintro _ h' n' ⟨rfl, rfl, rfl⟩)) | ((with_reducible first | apply zo1 | apply zo2 | apply o_guard rfl | apply x_cond | apply k_e1 rfl | apply k_e2 rfl | apply k_e0 rfl | apply k_e3 rfl | apply k_e4 rfl); (case he => exact ez1 c1); (try case hok => exact ezO); all_goals try (intro hb; (try simp only [hbs, reduceCtorEq] at hb); try exact ezX)) | ((with_reducible apply o_undef rfl); (case hb => exact ez0)))
        refine k_round (rl.length - (q + 1)) (by omega) ⟨⟨rfl, rfl⟩, q + 1, rfl, by omega, ez0, fun y hy => ?_⟩
        rw [List.take_succ_eq_append_getElem hql] at hy
        rcases List.mem_append.1 hy with hy | hy
        · exact hall y hy
        · obtain rfl := List.mem_singleton.1 hy
          rw [hx]
          exact hx0
      · have h16 := szR_err hC hxm hx0
        have hE : E = 16 := by rw [← hEe, hok1 fun hh => hx0 (hh x (by rw [← hx]; exact List.getElem_mem hql))]
        rw [h16] at q3
        subst hE
        (repeat' first | refine zcd ?_ | intro K' hK | (with_reducible refine zn hK ?_; clear hK) | ((with_reducible apply o_callF (g := 27) w_none); (case ha => exact ez0); (case hs => (exact q3)); (case' hk => rintro _ h' n' ⟨rfl, rfl, rfl⟩)) | ((with_reducible first | apply zo1 | apply zo2 | apply o_guard rfl | apply x_cond | apply k_e1 rfl | apply k_e2 rfl | apply k_e0 rfl | apply k_e3 rfl | apply k_e4 rfl); (case he => exact ez1 c1); (try case hok => exact ezO); all_goals try (intro hb; (try simp only [hbs, reduceCtorEq] at hb); try exact ezX)) | ((with_reducible apply o_undef rfl); (case hb => exact ez0)))
        all_goals exact sw_flat rfl rfl ⟨⟨_, rfl⟩, rfl, rfl⟩
    · obtain rfl : q = rl.length := by omega
      rw [List.take_length] at hall
      have hE : E = 0 := by rw [← hEe, hok0 hall]
      subst hE
      (repeat' first | refine zcd ?_ | intro K' hK | (with_reducible refine zn hK ?_; clear hK) | fail | ((with_reducible first | apply zo1 | apply zo2 | apply o_guard rfl | apply x_cond | apply k_e1 rfl | apply k_e2 rfl | apply k_e0 rfl | apply k_e3 rfl | apply k_e4 rfl); (case he => exact ez0); (try case hok => exact ezO); all_goals try (intro hb; (try simp only [hbs, reduceCtorEq] at hb); try exact ezX)) | ((with_reducible apply o_undef rfl); (case hb => exact ez0)))
      all_goals exact sw_flat rfl rfl ⟨⟨_, rfl⟩, rfl, rfl⟩
  · have e : okE T t = (szR 1048576 T t).2.2 := by unfold okE; rw [if_pos he]
    rw [e]
    have q1 := qs h n t hT
    obtain ⟨E, hE⟩ : ∃ E, (szR 1048576 T t).2.2 = E := ⟨_, rfl⟩
    rw [hE] at q1 he ⊢
    refine enter Try.func37 (by kernel_rfl) rfl (by kernel_rfl) rfl rfl rfl ?_
    (repeat' first | refine zcd ?_ | intro K' hK | (with_reducible refine zn hK ?_; clear hK) | ((with_reducible apply o_callF (g := 27) w_none); (case ha => exact ez0); (case hs => (exact q1)); (case' hk => rintro _ h' n' ⟨rfl, rfl, rfl⟩)) | ((with_reducible first | apply zo1 | apply zo2 | apply o_guard rfl | apply x_cond | apply k_e1 rfl | apply k_e2 rfl | apply k_e0 rfl | apply k_e3 rfl | apply k_e4 rfl); (case he => exact ez0); (try case hok => exact ezO); all_goals try (intro hb; (try simp only [hbs, reduceCtorEq] at hb); try exact ezX)) | ((with_reducible apply o_undef rfl); (case hb => exact ez0)))
    all_goals exact sw_flat rfl rfl ⟨⟨_, rfl⟩, rfl, rfl⟩
end Go.Proofs.Ytcpkdjikembpnaa.Ce
namespace Go.Proofs.Ytcpkdjikembpnaa.Ce
open Go.RowKit
def alnT (T : List Tp) (x : Nat) : Int := ((eRow 1048576 T).at_ (x : Int)).2
noncomputable def LoadR (T : List Tp) (L : List Rg) (a t dp : Int) : Except Int V :=
  if okE T t ≠ 0 then .error (okE T t) else if dp < 0 ∨ 3 < dp then .error 2 else if lstE L ≠ 0 then .error (lstE L)
  else match fstI L a (sizT T t.toNat) 0 with
    | none => .error 16
    | some i => if a % alnT T t.toNat ≠ 0 then .error 16 else match L[i]? with
      | none => .error 0
      | some g => loadP T L 1000 dp.toNat ((g.xs.drop (a - g.b).toNat).take (sizT T t.toNat).toNat) t.toNat
theorem lstE_chk {L : List Rg} (h : lstE L = 0) : ∀ g ∈ L, chkG g = 0 := by
  unfold lstE at h
  split at h
  · cases h
  · split at h
    · cases h
    · exact Classical.not_not.1 ‹_›
variable (k d cl : Nat) (h : Hp) (n : Nat)
theorem vload_ev (hk : 30000 ≤ k) (TA A : Option Addr) (T : List Tp) (L : List Rg) (tc gc : Nat) (hT : TabH h n TA T) (hS : ∀ t ∈ T, t.fs.length ≤ 20000) (hm : T.length ≤ 9223372036854775807) (hR : RgH h n A L) (hl : L.length ≤ 100) (a t dp : Int) (ha0 : 0 ≤ a) (ha1 : a < 18446744073709551616) :
    SQ k (d + 3100) cl 11 [.slice TA T.length tc, .slice A L.length gc, .int .u64 a, .int .i64 t, .int .i64 dp] h n (LdV (LoadR T L a t dp) h n) := by
  have qc0 := fun (h6 : Hp) (n6 : Nat) (hT6 : TabH h6 n6 TA T) => (vcheck_ev k (d + 3089) n h6 n6 hk TA T tc hT6 hS hm t).mono (Φ' := fun v h' n' => (∃ z : Int, v = .tuple ⟨[.int .i64 z, .int .i64 (okE T t)]⟩) ∧ h6 = h' ∧ n6 = n') fun _ _ _ hp => ⟨hp.1, hp.2.1.symm, hp.2.2.symm⟩
  by_cases hE : okE T t = 0
  · obtain ⟨x, rfl, ho⟩ := okE_0 hE
    simp only [hE] at qc0
    by_cases hdp : dp < 0 ∨ 3 < dp
    · have e : LoadR T L a x dp = .error 2 := by unfold LoadR; rw [if_neg (not_not_intro hE), if_pos hdp]
      rw [e]
      refine enter Try.func11 (by kernel_rfl) rfl (by kernel_rfl) rfl rfl rfl ?_
      (repeat' first | refine zcd ?_ | intro K' hK | (with_reducible refine zn hK ?_; clear hK) | ((with_reducible apply o_callF (g := 37) w_none); (case ha => exact ez0); (case hs => ((with_reducible apply qc0); exact ezT hT)); (case' hk => rintro _ h' n' ⟨⟨z, rfl⟩, rfl, rfl⟩)) | ((with_reducible first | apply zo1 | apply zo2 | apply o_guard rfl | apply x_cond | apply k_e1 rfl | apply k_e2 rfl | apply k_e0 rfl | apply k_e3 rfl | apply k_e4 rfl); (case he => exact ez0); (try case hok => exact ezO); all_goals try (intro hb; (try simp only [hbs, reduceCtorEq] at hb); try exact ezX)) | ((with_reducible apply o_undef rfl); (case hb => exact ez0)))
      all_goals exact sw_flat rfl rfl ⟨rfl, by decide, rfl, rfl⟩
    · have qf0 := fun (h6 : Hp) (n6 : Nat) (hR6 : RgH h6 n6 A L) => (findL_ev k (d + 3093) n h6 n6 hk A L gc hR6 hl 0 1 (by omega) (by omega) (by omega) (by omega)).mono (Φ' := fun v h' n' => v = .tuple ⟨[.int .i64 (findS L 0 1).1, .int .i64 (findS L 0 1).2]⟩ ∧ h6 = h' ∧ n6 = n') fun _ _ _ hp => ⟨hp.1, hp.2.1.symm, hp.2.2.symm⟩
      by_cases hLE : lstE L = 0
      · have hC := lstE_chk hLE
        have hz1 := siz_pos (x + 1) ho (by omega)
        have hz2 := ho.bnd
        have hal : alnT T x = 1 ∨ alnT T x = 8 := (sizT_ok ho.chk ho.lt).2.2
        have e : LoadR T L a x dp = match fstI L a (sizT T x) 0 with
            | none => .error 16
            | some i => if a % alnT T x ≠ 0 then .error 16 else match L[i]? with
              | none => .error 0
              | some g => loadP T L 1000 dp.toNat ((g.xs.drop (a - g.b).toNat).take (sizT T x).toNat) x := by
          unfold LoadR
          rw [if_neg (not_not_intro hE), if_neg hdp, if_neg (not_not_intro hLE), Int.toNat_natCast]
        rw [e]
        have qz := fun (h6 : Hp) (n6 : Nat) (hT6 : TabH h6 n6 TA T) => (lsize_ev k (d + 3091) n h6 n6 hk TA T tc hT6 hS hm x).mono (Φ' := fun v h' n' => v = .tuple ⟨[.int .i64 (sizT T x), .int .i64 (alnT T x), .int .i64 0]⟩ ∧ h6 = h' ∧ n6 = n') fun _ _ _ hp => ⟨by rw [hp.1, ho.size]; rfl, hp.2.1.symm, hp.2.2.symm⟩
        have qf1 := fun (h6 : Hp) (n6 : Nat) (w' : Int) (hw' : w' = sizT T x) (hR6 : RgH h6 n6 A L) => (findL_ev k (d + 3093) n h6 n6 hk A L gc hR6 hl a w' ha0 ha1 (by omega) (by omega)).mono (Φ' := fun v h' n' => v = .tuple ⟨[.int .i64 (findS L a (sizT T x)).1, .int .i64 (findS L a (sizT T x)).2]⟩ ∧ h6 = h' ∧ n6 = n') fun _ _ _ hp => ⟨by rw [hp.1, hw'], hp.2.1.symm, hp.2.2.symm⟩
        have hf01 : (findS L 0 1).2 = 0 ∨ (findS L 0 1).2 = 6 := by
          unfold findS
          rw [if_neg (not_not_intro hLE), if_neg (by omega)]
          split
          · exact .inl rfl
          · exact .inr rfl
        obtain ⟨F0, hF0⟩ : ∃ F0, findS L 0 1 = F0 := ⟨_, rfl⟩
        obtain ⟨F1, hF1⟩ : ∃ F1, findS L a (sizT T x) = F1 := ⟨_, rfl⟩
        have hS1 : F1 = match fstI L a (sizT T x) 0 with
            | some i => ((i : Int), 0)
            | none => (0, 6) := by
          rw [← hF1]
          unfold findS
          rw [if_neg (not_not_intro hLE), if_neg (by omega)]
          rfl
        simp only [hF0] at qf0 hf01
        simp only [hF1] at qf1
        obtain ⟨f0, f0e⟩ := F0
        obtain ⟨f1, f1e⟩ := F1
        dsimp only at qf0 qf1 hf01
        have hszx : ∃ z, sizT T x = z := ⟨_, rfl⟩
        obtain ⟨z0, hz0⟩ := hszx
        obtain ⟨al, hale⟩ : ∃ al, alnT T x = al := ⟨_, rfl⟩
        simp only [hz0] at qz qf1 hz1 hz2 hS1 ⊢
        simp only [hale] at qz hal ⊢
        cases hfi : fstI L a z0 0 with
        | none =>
          rw [hfi] at hS1
          injection hS1 with hS1 hS2
          subst hS1
          subst hS2
          dsimp only
          refine enter Try.func11 (by kernel_rfl) rfl (by kernel_rfl) rfl rfl rfl ?_
          (repeat' first | refine zcd ?_ | intro K' hK | (with_reducible refine zn hK ?_; clear hK) | ((with_reducible apply o_callF (g := 37) w_none); (case ha => exact ez0); (case hs => ((with_reducible apply qc0); exact ezT hT)); (case' hk => rintro _ h' n' ⟨⟨z, rfl⟩, rfl, rfl⟩)) | ((with_reducible apply o_callF (g := 38) w_none); (case ha => exact ez0); (case hs => ((first | with_reducible apply qf0 | ((with_reducible apply qf1); (case hw' => first | omega | (split <;> omega)))); exact ezG hR)); (case' hk => rintro _ h' n' ⟨rfl, rfl, rfl⟩)) | ((with_reducible apply o_callF (g := 27) w_none); (case ha => exact ez0); (case hs => ((with_reducible apply qz); exact ezT hT)); (case' hk => rintro _ h' n' ⟨rfl, rfl, rfl⟩)) | ((with_reducible first | apply zo1 | apply zo2 | apply o_guard rfl | apply x_cond | apply k_e1 rfl | apply k_e2 rfl | apply k_e0 rfl | apply k_e3 rfl | apply k_e4 rfl); (case he => exact ez0); (try case hok => exact ezO); all_goals try (intro hb; (try simp only [hbs, reduceCtorEq] at hb); try exact ezX)) | ((with_reducible apply o_undef rfl); (case hb => exact ez0)))
          all_goals exact sw_flat rfl rfl ⟨rfl, by decide, rfl, rfl⟩
        | some i =>
          rw [hfi] at hS1
          injection hS1 with hS1 hS2
          subst hS1
          subst hS2
          dsimp only
          obtain ⟨q, hq, eq, hin, -⟩ := fstI_some hfi
          obtain rfl : i = q := by omega
          rw [List.getElem?_eq_getElem hq]
          obtain ⟨hi1, hi2⟩ := inb_iff.1 hin
          have hg := hR.fd _ (List.getElem_mem hq)
          have hcg := hC _ (List.getElem_mem hq)
          have hcb := chkR_ok hcg
          obtain ⟨gid, goff, hgA, hgid, c1⟩ := hR.at_ hq
          subst hgA
          obtain ⟨G, hG⟩ : ∃ G, L[i] = G := ⟨_, rfl⟩
          rw [hG] at hi1 hi2 hg hcg hcb c1 ⊢
          dsimp only
          have hal2 : a % al ≠ 0 ∨ a % al = 0 := by omega
          rcases hal2 with hr | hr
          · rw [if_pos hr]
            rcases hal with rfl | rfl
            · omega
            · refine enter Try.func11 (by kernel_rfl) rfl (by kernel_rfl) rfl rfl rfl ?_
              (repeat' first | refine zcd ?_ | intro K' hK | (with_reducible refine zn hK ?_; clear hK) | ((with_reducible apply o_callF (g := 37) w_none); (case ha => exact ez0); (case hs => ((with_reducible apply qc0); exact ezT hT)); (case' hk => rintro _ h' n' ⟨⟨z, rfl⟩, rfl, rfl⟩)) | ((with_reducible apply o_callF (g := 38) w_none); (case ha => exact ez0); (case hs => ((first | with_reducible apply qf0 | ((with_reducible apply qf1); (case hw' => first | omega | (split <;> omega)))); exact ezG hR)); (case' hk => rintro _ h' n' ⟨rfl, rfl, rfl⟩)) | ((with_reducible apply o_callF (g := 27) w_none); (case ha => exact ez0); (case hs => ((with_reducible apply qz); exact ezT hT)); (case' hk => rintro _ h' n' ⟨rfl, rfl, rfl⟩)) | ((with_reducible apply o_callF (g := 39) w_none); (case ha => exact ez0); (case hs => ((with_reducible apply qb); exact ezD hg)); (case' hk => rintro _ h' n' ⟨rfl, rfl, rfl⟩)) | ((with_reducible first | apply zo1 | apply zo2 | apply o_guard rfl | apply x_cond | apply k_e1 rfl | apply k_e2 rfl | apply k_e0 rfl | apply k_e3 rfl | apply k_e4 rfl); (case he => exact ez0); (try case hok => exact ezO); all_goals try (intro hb; (try simp only [hbs, reduceCtorEq] at hb); try exact ezX)) | ((with_reducible apply o_undef rfl); (case hb => exact ez0)))
              all_goals exact sw_flat rfl rfl ⟨rfl, by decide, rfl, rfl⟩
          · rw [if_neg (not_not_intro hr)]
            obtain ⟨w, rfl⟩ := Int.eq_ofNat_of_zero_le (show 0 ≤ z0 by omega)
            obtain ⟨dn, rfl⟩ := Int.eq_ofNat_of_zero_le (show 0 ≤ dp by omega)
            rw [Int.toNat_natCast, Int.toNat_natCast]
            obtain ⟨ys, hys⟩ : ∃ ys, (G.xs.drop (a - G.b).toNat).take w = ys := ⟨_, rfl⟩
            have hyl : ys.length = w := by rw [← hys, List.length_take, List.length_drop]; omega
            rw [hys]
            have qb := fun (h6 : Hp) (n6 : Nat) (hg6 : RdH h6 n6 G.A (bv G.xs)) => bytesG_ok k (d + 3095) n h6 n6 G hg6 hcg a w hi1 (by omega) ys hys hyl
            have ql0 := fun (h6 : Hp) (n6 b : Nat) (hT6 : TabH h6 n6 TA T) (hR6 : RgH h6 n6 (some ⟨gid, goff, none⟩) L) (hB6 : RdH h6 n6 (some ⟨b, 0, none⟩) (bv ys)) => mload_ev k hk TA (some ⟨gid, goff, none⟩) T L tc gc hS ho.chk.1 hl hLE hC 1000 x dn ho (by omega) (by have := ho.lt; have := ho.chk.1; omega) (d + 79) n h6 n6 b 0 w w ys hT6 hR6 hyl.symm hB6 (by omega) (by omega)
            obtain ⟨res, hres⟩ : ∃ res, loadP T L 1000 dn ys x = res := ⟨_, rfl⟩
            simp only [hres] at ql0 ⊢
            cases res with
            | error e =>
              have ql := fun (h6 : Hp) (n6 b : Nat) (hT6 : TabH h6 n6 TA T) (hR6 : RgH h6 n6 (some ⟨gid, goff, none⟩) L) (hB6 : RdH h6 n6 (some ⟨b, 0, none⟩) (bv ys)) => (ql0 h6 n6 b hT6 hR6 hB6).mono (Φ' := fun v h' n' => v = .tuple ⟨[.agg ⟨vcell 0 0 [] none 0 0 false⟩, .int .i64 e]⟩ ∧ e ≠ 0 ∧ h6 = h' ∧ n6 = n') fun _ _ _ hp => ⟨hp.1, hp.2.1, hp.2.2.1.symm, hp.2.2.2.symm⟩
              rcases hal with rfl | rfl
              all_goals
                refine enter Try.func11 (by kernel_rfl) rfl (by kernel_rfl) rfl rfl rfl ?_
                (repeat' first | refine zcd ?_ | intro K' hK | (with_reducible refine zn hK ?_; clear hK) | ((with_reducible apply o_callF (g := 37) w_none); (case ha => exact ez0); (case hs => ((with_reducible apply qc0); exact ezT hT)); (case' hk => rintro _ h' n' ⟨⟨z, rfl⟩, rfl, rfl⟩)) | ((with_reducible apply o_callF (g := 38) w_none); (case ha => exact ez0); (case hs => ((first | with_reducible apply qf0 | ((with_reducible apply qf1); (case hw' => first | omega | (split <;> omega)))); exact ezG hR)); (case' hk => rintro _ h' n' ⟨rfl, rfl, rfl⟩)) | ((with_reducible apply o_callF (g := 27) w_none); (case ha => exact ez0); (case hs => ((with_reducible apply qz); exact ezT hT)); (case' hk => rintro _ h' n' ⟨rfl, rfl, rfl⟩)) | ((with_reducible apply o_callF (g := 39) w_none); (case ha => exact ez0); (case hs => ((with_reducible apply qb); exact ezD hg)); (case' hk => rintro _ h' n' ⟨rfl, rfl, rfl⟩)) | ((with_reducible apply o_callF (g := 40) w_none); (case ha => exact ez0); (case hs => ((with_reducible apply ql); (all_goals first | exact ezT hT | exact ezG hR | exact RdH.row (by omega)))); (case' hk => rintro _ h' n' ⟨rfl, he0, rfl, rfl⟩)) | ((with_reducible first | apply zo1 | apply zo2 | apply o_guard rfl | apply x_cond | apply k_e1 rfl | apply k_e2 rfl | apply k_e0 rfl | apply k_e3 rfl | apply k_e4 rfl); (case he => exact ez1 c1); (try case hok => exact ezO); all_goals try (intro hb; (try simp only [hbs, reduceCtorEq] at hb); try exact ezX)) | ((with_reducible apply o_undef rfl); (case hb => exact ez0)))
                all_goals exact sw_flat rfl rfl ⟨rfl, he0, rfl, rfl⟩
            | ok xv =>
              have ql := fun (h6 : Hp) (n6 b : Nat) (hT6 : TabH h6 n6 TA T) (hR6 : RgH h6 n6 (some ⟨gid, goff, none⟩) L) (hB6 : RdH h6 n6 (some ⟨b, 0, none⟩) (bv ys)) => (ql0 h6 n6 b hT6 hR6 hB6).mono (Φ' := fun v h' n' => ∃ A1 cc1, v = .tuple ⟨[.agg ⟨vcell xv.kd xv.i xv.s A1 xv.l.length cc1 xv.c⟩, .int .i64 0]⟩ ∧ FH h' n6 n' xv (vcell xv.kd xv.i xv.s A1 xv.l.length cc1 xv.c) ∧ n6 ≤ n' ∧ ∀ b, b < n6 → h'.get b = h6.get b) fun v h' n' ⟨cs, e1, hf, a, b⟩ => by
                obtain ⟨A1, cc1, rfl⟩ := hf.cells
                exact ⟨A1, cc1, e1, hf, a, b⟩
              rcases hf01 with rfl | rfl <;> rcases hal with rfl | rfl
              all_goals
                refine enter Try.func11 (by kernel_rfl) rfl (by kernel_rfl) rfl rfl rfl ?_
                (repeat' first | refine zcd ?_ | intro K' hK | (with_reducible refine zn hK ?_; clear hK) | ((with_reducible apply o_callF (g := 37) w_none); (case ha => exact ez0); (case hs => ((with_reducible apply qc0); exact ezT hT)); (case' hk => rintro _ h' n' ⟨⟨z, rfl⟩, rfl, rfl⟩)) | ((with_reducible apply o_callF (g := 38) w_none); (case ha => exact ez0); (case hs => ((first | with_reducible apply qf0 | ((with_reducible apply qf1); (case hw' => first | omega | (split <;> omega)))); exact ezG hR)); (case' hk => rintro _ h' n' ⟨rfl, rfl, rfl⟩)) | ((with_reducible apply o_callF (g := 27) w_none); (case ha => exact ez0); (case hs => ((with_reducible apply qz); exact ezT hT)); (case' hk => rintro _ h' n' ⟨rfl, rfl, rfl⟩)) | ((with_reducible apply o_callF (g := 39) w_none); (case ha => exact ez0); (case hs => ((with_reducible apply qb); exact ezD hg)); (case' hk => rintro _ h' n' ⟨rfl, rfl, rfl⟩)) | ((with_reducible apply o_callF (g := 40) w_none); (case ha => exact ez0); (case hs => ((with_reducible apply ql); (all_goals first | exact ezT hT | exact ezG hR | exact RdH.row (by omega)))); (case' hk => rintro _ h' n' ⟨A1, cc1, rfl, hfx, hn6, hk6⟩)) | ((with_reducible first | apply zo1 | apply zo2 | apply o_guard rfl | apply x_cond | apply k_e1 rfl | apply k_e2 rfl | apply k_e0 rfl | apply k_e3 rfl | apply k_e4 rfl); (case he => exact ez1 c1); (try case hok => exact ezO); all_goals try (intro hb; (try simp only [hbs, reduceCtorEq] at hb); try exact ezX)) | ((with_reducible apply o_undef rfl); (case hb => exact ez0)))
                have r8 : rowOf h' n = some (32, false, vcell 0 0 [] none 0 0 false) := by
                  rw [rowOf_keep (hk6 _ (by omega))]
                  simp (disch := first | assumption | omega | rfl | decide) only [go_sem, seval, tys]
                  try rfl
                have w8 := rwOf_row r8
                (repeat' first | refine zcd ?_ | intro K' hK | (with_reducible refine zn hK ?_; clear hK) | fail | ((with_reducible first | apply zo1 | apply zo2 | apply o_guard rfl | apply x_cond | apply k_e1 rfl | apply k_e2 rfl | apply k_e0 rfl | apply k_e3 rfl | apply k_e4 rfl); (case he => exact ez1 w8); (try case hok => exact ezO); all_goals try (intro hb; (try simp only [hbs, reduceCtorEq] at hb); try exact ezX)) | ((with_reducible apply o_undef rfl); (case hb => exact ez0)))
                refine sw_fh (hfx.keep (by omega) (Nat.le_refl _) fun b hb1 hb2 => by (repeat rw [Hp.get_ne _ _ (by omega)])) (by omega) (fun b hb => by (repeat rw [Hp.get_ne _ _ (by omega)]); rw [hk6 _ (by omega)]; (repeat rw [Hp.get_ne _ _ (by omega)])) fun cs2 h2 n2 a b c => ⟨cs2, rfl, a, b, c⟩
      · have e : LoadR T L a x dp = .error (lstE L) := by unfold LoadR; rw [if_neg (not_not_intro hE), if_neg hdp, if_pos hLE]
        have eS : findS L 0 1 = (0, lstE L) := by unfold findS; rw [if_pos hLE]
        have h6 : lstE L ≠ 6 := by
          unfold lstE
          repeat' split
          all_goals decide
        rw [e]
        simp only [eS] at qf0
        obtain ⟨E, hEe⟩ : ∃ E, lstE L = E := ⟨_, rfl⟩
        simp only [hEe] at qf0 hLE h6 ⊢
        refine enter Try.func11 (by kernel_rfl) rfl (by kernel_rfl) rfl rfl rfl ?_
        (repeat' first | refine zcd ?_ | intro K' hK | (with_reducible refine zn hK ?_; clear hK) | ((with_reducible apply o_callF (g := 37) w_none); (case ha => exact ez0); (case hs => ((with_reducible apply qc0); exact ezT hT)); (case' hk => rintro _ h' n' ⟨⟨z, rfl⟩, rfl, rfl⟩)) | ((with_reducible apply o_callF (g := 38) w_none); (case ha => exact ez0); (case hs => ((with_reducible apply qf0); exact ezG hR)); (case' hk => rintro _ h' n' ⟨rfl, rfl, rfl⟩)) | ((with_reducible first | apply zo1 | apply zo2 | apply o_guard rfl | apply x_cond | apply k_e1 rfl | apply k_e2 rfl | apply k_e0 rfl | apply k_e3 rfl | apply k_e4 rfl); (case he => exact ez0); (try case hok => exact ezO); all_goals try (intro hb; (try simp only [hbs, reduceCtorEq] at hb); try exact ezX)) | ((with_reducible apply o_undef rfl); (case hb => exact ez0)))
        all_goals exact sw_flat rfl rfl ⟨rfl, hLE, rfl, rfl⟩
  · have e : LoadR T L a t dp = .error (okE T t) := by unfold LoadR; rw [if_pos hE]
    rw [e]
    obtain ⟨E, hEe⟩ : ∃ E, okE T t = E := ⟨_, rfl⟩
    simp only [hEe] at qc0 hE ⊢
    refine enter Try.func11 (by kernel_rfl) rfl (by kernel_rfl) rfl rfl rfl ?_
    (repeat' first | refine zcd ?_ | intro K' hK | (with_reducible refine zn hK ?_; clear hK) | ((with_reducible apply o_callF (g := 37) w_none); (case ha => exact ez0); (case hs => ((with_reducible apply qc0); exact ezT hT)); (case' hk => rintro _ h' n' ⟨⟨z, rfl⟩, rfl, rfl⟩)) | ((with_reducible first | apply zo1 | apply zo2 | apply o_guard rfl | apply x_cond | apply k_e1 rfl | apply k_e2 rfl | apply k_e0 rfl | apply k_e3 rfl | apply k_e4 rfl); (case he => exact ez0); (try case hok => exact ezO); all_goals try (intro hb; (try simp only [hbs, reduceCtorEq] at hb); try exact ezX)) | ((with_reducible apply o_undef rfl); (case hb => exact ez0)))
    all_goals exact sw_flat rfl rfl ⟨rfl, hE, rfl, rfl⟩
end Go.Proofs.Ytcpkdjikembpnaa.Ce
