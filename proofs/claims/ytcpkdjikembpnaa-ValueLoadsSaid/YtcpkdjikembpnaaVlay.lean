/- Parts of the proof of ValueLoads: Hg, Me, Hd, Hh. No condition of its own. -/
import Derived.Test.YtcpkdjikembpnaaVlas
import Derived.Test.YtcpkdjikembpnaaVlau
import Derived.Test.YtcpkdjikembpnaaVlav
import Derived.Test.YtcpkdjikembpnaaVlaw
set_option linter.unusedVariables false
set_option linter.unusedSimpArgs false
set_option maxRecDepth 100000
set_option maxHeartbeats 4000000
namespace Go.Proofs.Ytcpkdjikembpnaa.Ce
open Go.RowKit
variable (k d cl : Nat) (h : Hp) (n : Nat)
theorem rlisted_ev (hk : 30000 ≤ k) (TA A : Option Addr) (T : List Tp) (L : List Rg) (tc gc : Nat) (hT : TabH h n TA T) (hm : T.length ≤ 9223372036854775807) (hE : lstE L = 0) (t : Nat) (ht : t < T.length) (kd : Int) (hkd : T[t].kd = kd) (a : Int) (bs : List UInt8) (hat : AtB L a bs) (hbl : bs.length ≤ 1000000) (PA QA : Option Addr) (ps os : List Int) (pc qc pl ql : Nat) (dp : Int) (g : List UInt8 → Nat → Except Int V)
    (hP : RdH h n PA (iv ps)) (hQ : RdH h n QA (iv os)) (hpl : pl = ps.length) (hql : ql = os.length) (hl : ps.length = os.length) (hl2 : ps.length ≤ 1000)
    (ho : ∀ q (hq : q < os.length), 0 ≤ os[q] ∧ os[q] ≤ bs.length)
    (ih : ∀ q (hq : q < ps.length) (hq2 : q < os.length) (cl : Nat) (h6 : Hp) (n6 : Nat), n ≤ n6 → (∀ b, b < n → h6.get b = h.get b) →
      SQ k d cl 44 [.slice TA T.length tc, .slice A L.length gc, .int .u64 (a + os[q]), .int .i64 ps[q], .int .i64 dp] h6 n6 (LdV (g (bs.drop os[q].toNat) ps[q].toNat) h6 n6)) :
    SQ k (d + 1) cl 80 [.slice TA T.length tc, .slice A L.length gc, .int .u64 a, .int .i64 t, .slice PA pl pc, .slice QA ql qc, .int .i64 dp] h n (LdV (asV kd (listP g bs (ps.zip os))) h n) := by
  subst hpl
  subst hql
  have hab := hat.bnd hE
  obtain ⟨tid, toff, hTA, htid, -, t0, -, -, -⟩ := hT.at_ ht
  subst hTA
  rw [hkd] at t0
  refine enter Try.func80 (by kernel_rfl) rfl (by kernel_rfl) rfl rfl rfl ?_
  (repeat' first | refine zcd ?_ | intro K' hK | (with_reducible refine zn hK ?_; clear hK) | fail | ((with_reducible first | apply zo1 | apply zo2 | apply o_guard rfl | apply x_cond | apply k_e1 rfl | apply k_e2 rfl | apply k_e0 rfl | apply k_e3 rfl | apply k_e4 rfl); (case he => exact ez1 t0); (try case hok => exact ezO); all_goals try (intro hb; (try simp only [hbs, reduceCtorEq] at hb); try exact ezX)) | ((with_reducible apply o_undef rfl); (case hb => exact ez0)))
  refine x_loopV [15, 17, 18, 19, 26, 27, 28, 29, 30, 31, 32, 33, 34, 35, 36, 37, 38, 39, 40, 41, 42, 43, 44, 45, 46, 47, 48, 49, 50, 51, 52, 53, 54, 55, 56, 57, 58, 59] [17] (fun r vs h5 n5 => ∃ (q : Nat) (acc : List V) (OA : Option Addr), r = ps.length - q ∧ q ≤ ps.length ∧ vs = [.int .i64 q] ∧ n + 2 ≤ n5 ∧ (∀ b, b < n → h5.get b = h.get b) ∧ rowOf h5 n = some (32, false, vcell 0 0 [] none 0 0 false) ∧ rowOf h5 (n + 1) = some (32, false, vcell kd 0 [] OA q q false) ∧ acc.length = q ∧ OwnV acc (.slice OA q q) h5 (n + 2) n5 ∧ listP g bs ((ps.zip os).take q) = .ok acc) ps.length rfl (by omega) ?_ ?_
  · exact ⟨0, [], none, rfl, by omega, ez0, by omega, fun b hb => by (repeat rw [Hp.get_ne _ _ (by omega)]), ez0, ez0, rfl, .inl ⟨rfl, rfl⟩, rfl⟩
  · rintro r g1 _ h5 n5 ⟨q, acc, OA, rfl, hq, rfl, hn5, hkp, r0, r1, hal, hO, hacc⟩
    by_cases hqp : q < ps.length
    · have hqo : q < os.length := by omega
      obtain ⟨pid, poff, rfl, hpid, cp⟩ := int_at (hP.keep (Nat.le_refl _) hkp) hqp
      obtain ⟨qid, qoff, rfl, hqid, cq⟩ := int_at (hQ.keep (Nat.le_refl _) hkp) hqo
      have hoq := ho q hqo
      have q1 := ih q hqp hqo n h5 n5 (by omega) hkp
      have hsn := listP_snoc g bs (ps[q], os[q]) _ _ hacc
      rw [← zip_take hl hqp] at hsn
      obtain ⟨ty, hty⟩ : ∃ ty, ps[q] = ty := ⟨_, rfl⟩
      obtain ⟨of, hof⟩ : ∃ of, os[q] = of := ⟨_, rfl⟩
      simp only [hty, hof] at cp cq hoq q1 hsn
      obtain ⟨o, rfl⟩ := Int.eq_ofNat_of_zero_le hoq.1
      rw [Int.toNat_natCast] at hsn q1
      have haw : IntKind.wrap .u64 (a + (o : Int)) = a + o := by rw [IntKind.wrap_u64]; omega
      have how : IntKind.wrap .u64 (o : Int) = o := by rw [IntKind.wrap_u64]; omega
      obtain ⟨res, hres⟩ : ∃ res, g (bs.drop o) ty.toNat = res := ⟨_, rfl⟩
      rw [hres] at q1 hsn
      cases res with
      | error e =>
        dsimp only at hsn
        have hall : listP g bs (ps.zip os) = .error e := by
          obtain ⟨r, hr⟩ := zip_split hl hqp
          rw [hr]
          exact listP_err g bs _ _ hsn
        rw [hall]
        have q1 : SQ k d n 44 [.slice (some ⟨tid, toff, none⟩) T.length tc, .slice A L.length gc, .int .u64 (a + o), .int .i64 ty, .int .i64 dp] h5 n5 fun v h' n' => v = .tuple ⟨[.agg ⟨vcell 0 0 [] none 0 0 false⟩, .int .i64 e]⟩ ∧ e ≠ 0 ∧ h5 = h' ∧ n5 = n' := q1.mono fun _ _ _ hp => ⟨hp.1, hp.2.1, hp.2.2.1.symm, hp.2.2.2.symm⟩
        have w0 := rwOf_row r0
        (repeat' first | refine zcd ?_ | intro K' hK | (with_reducible refine zn hK ?_; clear hK) | (with_reducible refine x_drawnD (id := 5) [(6, 12), (7, 12)] (by kernel_rfl) fun K' hK => ?_) | ((with_reducible apply d_nil); (case hp => exact ezP); (case' hx => (refine hK _ _ _ ?_; clear hK))) | ((with_reducible apply d_pure w_none); (case hp => exact rfl); (case hc => exact rfl); (case he => exact ez5 cp cq haw how w0)) | ((with_reducible apply d_eff w_none); (case hc => exact rfl); (case he => exact ez5 cp cq haw how w0); (case hok => exact ezO)) | ((with_reducible apply d_guard rfl); (case hb => exact ez5 cp cq haw how w0); (case' h1 => intro hb; (try simp only [hbs, reduceCtorEq] at hb); try exact ezX); (case' h2 => intro hb; (try simp only [hbs, reduceCtorEq] at hb); try exact ezX)) | ((with_reducible apply d_callS (g := 44) w_none); (case hs0 => exact rfl); (case ha => exact ez0); (case hs => (exact q1)); (case' hk => rintro _ h' n' ⟨rfl, he0, rfl, rfl⟩)) | ((with_reducible first | apply zo1 | apply zo2 | apply o_guard rfl | apply x_cond | apply k_e1 rfl | apply k_e2 rfl | apply k_e0 rfl | apply k_e3 rfl | apply k_e4 rfl); (case he => exact ez5 cp cq haw how w0); (try case hok => exact ezO); all_goals try (intro hb; (try simp only [hbs, reduceCtorEq] at hb); try exact ezX)) | ((with_reducible apply o_undef rfl); (case hb => exact ez0)))
        all_goals exact sw_flat rfl rfl ⟨rfl, he0, rfl, rfl⟩
      | ok x =>
        dsimp only at hsn
        have q1 : SQ k d n 44 [.slice (some ⟨tid, toff, none⟩) T.length tc, .slice A L.length gc, .int .u64 (a + o), .int .i64 ty, .int .i64 dp] h5 n5 fun v h' n' => ∃ A1 cc1, v = .tuple ⟨[.agg ⟨vcell x.kd x.i x.s A1 x.l.length cc1 x.c⟩, .int .i64 0]⟩ ∧ FH h' n5 n' x (vcell x.kd x.i x.s A1 x.l.length cc1 x.c) ∧ n5 ≤ n' ∧ ∀ b, b < n5 → h'.get b = h5.get b := q1.mono fun v h' n' ⟨cs, e1, hf, a, b⟩ => by
          obtain ⟨A1, cc1, rfl⟩ := hf.cells
          exact ⟨A1, cc1, e1, hf, a, b⟩
        rcases hO with ⟨rfl, hO⟩ | ⟨hne, id, rows, j1, j2, hO, q4, hrl, hkk⟩
        · injection hO with hO1 hO2 hO3
          subst hO1
          subst hO2
          have cp0 := cp
          have cq0 := cq
          rw [Nat.add_zero] at cp0 cq0
          (repeat' first | refine zcd ?_ | intro K' hK | (with_reducible refine zn hK ?_; clear hK) | (with_reducible refine x_drawnD (id := 5) [(6, 12), (7, 12)] (by kernel_rfl) fun K' hK => ?_) | ((with_reducible apply d_nil); (case hp => exact ezP); (case' hx => (refine hK _ _ _ ?_; clear hK))) | ((with_reducible apply d_pure w_none); (case hp => exact rfl); (case hc => exact rfl); (case he => exact ez6 cp cq haw how cp0 cq0)) | ((with_reducible apply d_eff w_none); (case hc => exact rfl); (case he => exact ez6 cp cq haw how cp0 cq0); (case hok => exact ezO)) | ((with_reducible apply d_guard rfl); (case hb => exact ez6 cp cq haw how cp0 cq0); (case' h1 => intro hb; (try simp only [hbs, reduceCtorEq] at hb); try exact ezX); (case' h2 => intro hb; (try simp only [hbs, reduceCtorEq] at hb); try exact ezX)) | ((with_reducible apply d_callS (g := 44) w_none); (case hs0 => exact rfl); (case ha => exact ez0); (case hs => (exact q1)); (case' hk => rintro _ h' n' ⟨A1, cc1, rfl, hfx, hn6, hk6⟩)) | ((with_reducible first | apply zo1 | apply zo2 | apply o_guard rfl | apply x_cond | apply k_e1 rfl | apply k_e2 rfl | apply k_e0 rfl | apply k_e3 rfl | apply k_e4 rfl); (case he => exact ez6 cp cq haw how cp0 cq0); (try case hok => exact ezO); all_goals try (intro hb; (try simp only [hbs, reduceCtorEq] at hb); try exact ezX)) | ((with_reducible apply o_undef rfl); (case hb => exact ez0)))
          have r1' : rowOf h' (n + 1) = some (32, false, vcell kd 0 [] none 0 0 false) := by rw [rowOf_keep (hk6 _ (by omega))]; exact r1
          have w1 := rwOf_row r1'
          have f1 := cellAt_row (off := 3) r1'
          (repeat' first | refine zcd ?_ | intro K' hK | (with_reducible refine zn hK ?_; clear hK) | ((with_reducible apply d_nil); (case hp => exact ezP); (case' hx => (refine hK _ _ _ ?_; clear hK))) | ((with_reducible apply d_pure w_none); (case hp => exact rfl); (case hc => exact rfl); (case he => exact ez2 w1 f1)) | ((with_reducible apply d_eff w_none); (case hc => exact rfl); (case he => exact ez2 w1 f1); (case hok => exact ezO)) | ((with_reducible apply d_guard rfl); (case hb => exact ez2 w1 f1); (case' h1 => intro hb; (try simp only [hbs, reduceCtorEq] at hb); try exact ezX); (case' h2 => intro hb; (try simp only [hbs, reduceCtorEq] at hb); try exact ezX)) | ((with_reducible apply o_ap0 (t := 30) apT30 w_none); (case hs => exact ez0); (case hy => exact ez0); (case hsrc => exact src_row (rowOf_same _ _ _ _ _) rfl); (case hc => exact rfl); (case hm => omega); (case h0 => omega)) | ((with_reducible first | apply zo1 | apply zo2 | apply o_guard rfl | apply x_cond | apply k_e1 rfl | apply k_e2 rfl | apply k_e0 rfl | apply k_e3 rfl | apply k_e4 rfl); (case he => exact ez2 w1 f1); (try case hok => exact ezO); all_goals try (intro hb; (try simp only [hbs, reduceCtorEq] at hb); try exact ezX)) | ((with_reducible apply o_undef rfl); (case hb => exact ez0)))
          refine k_round (ps.length - 1) (by omega) ⟨1, [x], some ⟨n' + 1 + 1, 0, none⟩, rfl, by omega, ez0, by omega, (ezC hk6 hkp), (ezV hk6 r0), (by first | exact rowOf_same _ _ _ _ _ | (simp (disch := first | assumption | omega | rfl | decide) only [go_sem, seval, tys]; done) | (simp (disch := first | assumption | omega | rfl | decide) only [go_sem, seval, tys]; exact rfl)), rfl, .inr ⟨by simp, n' + 1 + 1, vcell x.kd x.i x.s A1 x.l.length cc1 x.c, by omega, by omega, rfl, (by rw [rowOf_ne _ _ (by omega)]; exact rowOf_same _ _ _ _ _), rfl, fun j hj => ?_⟩, hsn⟩
          have hj0 : j = 0 := by simp at hj; omega
          subst hj0
          exact (hfx.keep (by omega) (by omega) fun b hb1 hb2 => by (repeat rw [Hp.get_ne _ _ (by omega)]))
        · injection hO with hO1 hO2 hO3
          subst hO1
          rw [hal] at hrl
          have htw : rows.take (q * 5) = rows := List.take_of_length_le (by omega)
          (repeat' first | refine zcd ?_ | intro K' hK | (with_reducible refine zn hK ?_; clear hK) | (with_reducible refine x_drawnD (id := 5) [(6, 12), (7, 12)] (by kernel_rfl) fun K' hK => ?_) | ((with_reducible apply d_nil); (case hp => exact ezP); (case' hx => (refine hK _ _ _ ?_; clear hK))) | ((with_reducible apply d_pure w_none); (case hp => exact rfl); (case hc => exact rfl); (case he => exact ez4 cp cq haw how)) | ((with_reducible apply d_eff w_none); (case hc => exact rfl); (case he => exact ez4 cp cq haw how); (case hok => exact ezO)) | ((with_reducible apply d_guard rfl); (case hb => exact ez4 cp cq haw how); (case' h1 => intro hb; (try simp only [hbs, reduceCtorEq] at hb); try exact ezX); (case' h2 => intro hb; (try simp only [hbs, reduceCtorEq] at hb); try exact ezX)) | ((with_reducible apply d_callS (g := 44) w_none); (case hs0 => exact rfl); (case ha => exact ez0); (case hs => (exact q1)); (case' hk => rintro _ h' n' ⟨A1, cc1, rfl, hfx, hn6, hk6⟩)) | ((with_reducible first | apply zo1 | apply zo2 | apply o_guard rfl | apply x_cond | apply k_e1 rfl | apply k_e2 rfl | apply k_e0 rfl | apply k_e3 rfl | apply k_e4 rfl); (case he => exact ez4 cp cq haw how); (try case hok => exact ezO); all_goals try (intro hb; (try simp only [hbs, reduceCtorEq] at hb); try exact ezX)) | ((with_reducible apply o_undef rfl); (case hb => exact ez0)))
          have r1' : rowOf h' (n + 1) = some (32, false, vcell kd 0 [] (some ⟨id, 0, none⟩) q q false) := by rw [rowOf_keep (hk6 _ (by omega))]; exact r1
          have w1 := rwOf_row r1'
          have f1 := cellAt_row (off := 3) r1'
          have w4 := rwOf_row (show rowOf h' id = _ from by rw [rowOf_keep (hk6 _ j2)]; exact q4)
          (repeat' first | refine zcd ?_ | intro K' hK | (with_reducible refine zn hK ?_; clear hK) | ((with_reducible apply d_nil); (case hp => exact ezP); (case' hx => (refine hK _ _ _ ?_; clear hK))) | ((with_reducible apply d_pure w_none); (case hp => exact rfl); (case hc => exact rfl); (case he => exact ez3 w1 f1 w4)) | ((with_reducible apply d_eff w_none); (case hc => exact rfl); (case he => exact ez3 w1 f1 w4); (case hok => exact ezO)) | ((with_reducible apply d_guard rfl); (case hb => exact ez3 w1 f1 w4); (case' h1 => intro hb; (try simp only [hbs, reduceCtorEq] at hb); try exact ezX); (case' h2 => intro hb; (try simp only [hbs, reduceCtorEq] at hb); try exact ezX)) | ((with_reducible apply o_apR (t := 30) apT30 w_none); (case hs => exact ez1 w4); (case hy => exact ez1 w4); (case hsrc => exact src_row (rowOf_same _ _ _ _ _) rfl); (case hr => exact ez1 w4); (case hc => exact rfl); (case hm => omega); (case hli => omega); (case hln => omega); (case hcs => first | omega | (rw [hrl]; omega) | (rw [hrl]))) | ((with_reducible first | apply zo1 | apply zo2 | apply o_guard rfl | apply x_cond | apply k_e1 rfl | apply k_e2 rfl | apply k_e0 rfl | apply k_e3 rfl | apply k_e4 rfl); (case he => exact ez3 w1 f1 w4); (try case hok => exact ezO); all_goals try (intro hb; (try simp only [hbs, reduceCtorEq] at hb); try exact ezX)) | ((with_reducible apply o_undef rfl); (case hb => exact ez0)))
          have hnew := fun (H : Hp) (e1 : ∀ b, n + 2 ≤ b → b < id → H.get b = h'.get b) (e2 : ∀ b, n5 ≤ b → b < n' → H.get b = h'.get b) => rows_snoc (h := H) (lo := n + 2) (hi := n' + 1 + 1) (x := x) (by rw [hrl, hal]) (fun j hj => (hkk j hj).keep (Nat.le_refl _) (by omega) fun b hb1 hb2 => by rw [e1 b hb1 hb2]; exact hk6 _ (by omega)) (hfx.keep (by omega) (by omega) e2)
          refine k_round (ps.length - (q + 1)) (by omega) ⟨q + 1, acc ++ [x], some ⟨n' + 1 + 1, 0, none⟩, rfl, by omega, ez0, by omega, (ezC hk6 hkp), (ezV hk6 r0), (by first | exact rowOf_same _ _ _ _ _ | (simp (disch := first | assumption | omega | rfl | decide) only [go_sem, seval, tys]; done) | (simp (disch := first | assumption | omega | rfl | decide) only [go_sem, seval, tys]; exact rfl)), by rw [List.length_append, hal]; rfl, .inr ⟨by simp, n' + 1 + 1, rows ++ vcell x.kd x.i x.s A1 x.l.length cc1 x.c, by omega, by omega, by rw [List.length_append, hal]; rfl, (ez1 htw), (hnew h' (fun _ _ _ => rfl) fun _ _ _ => rfl).1, (hnew _ ezN fun b hb1 hb2 => by (repeat rw [Hp.get_ne _ _ (by omega)])).2⟩, hsn⟩
    · obtain rfl : q = ps.length := by omega
      rw [zip_whole hl] at hacc
      rw [hacc]
      have hO2 := hO.fhs
      have w0 := rwOf_row r0
      have f1 := cellsAt_row (off := 0) (k := 5) r1
      (repeat' first | refine zcd ?_ | intro K' hK | (with_reducible refine zn hK ?_; clear hK) | fail | ((with_reducible first | apply zo1 | apply zo2 | apply o_guard rfl | apply x_cond | apply k_e1 rfl | apply k_e2 rfl | apply k_e0 rfl | apply k_e3 rfl | apply k_e4 rfl); (case he => exact ez2 f1 w0); (try case hok => exact ezO); all_goals try (intro hb; (try simp only [hbs, reduceCtorEq] at hb); try exact ezX)) | ((with_reducible apply o_undef rfl); (case hb => exact ez0)))
      refine sw_fh (FHs.val (hO2.keep (by omega) (Nat.le_refl _) fun b hb1 hb2 => by (repeat rw [Hp.get_ne _ _ (by omega)])) kd 0 [] false) (by omega) (ezB hkp) fun cs2 h2 n2 a b c => ⟨cs2, rfl, a, b, c⟩
end Go.Proofs.Ytcpkdjikembpnaa.Ce
namespace Go.Proofs.Ytcpkdjikembpnaa.Ce
open Go.RowKit
variable (k d cl : Nat) (h : Hp) (n : Nat)
theorem rtogr_ev (hk : 30000 ≤ k) (A : Option Addr) (T : List Tp) (c : Nat) (hT : TabH h n A T) (FA : Option Addr) (fs : List (List UInt8 × Int)) (fc : Nat) (hr : RdH h n FA (fv fs)) (hl2 : fs.length ≤ 20) (hC : ChkT T) (h0 : fs ≠ []) (hall : ∀ f ∈ fs, 0 ≤ f.2 ∧ f.2 < T.length) :
    SQ k (d + 4) cl 111 [.slice A T.length c, .slice FA fs.length fc] h n fun v h' n' => v = .tuple ⟨[.slice (some ⟨n, 0, none⟩) fs.length fs.length, .int .i64 (upI (layR 1000000 (eRow 1000000 T) fs).2.1 (layR 1000000 (eRow 1000000 T) fs).2.2), .int .i64 (layR 1000000 (eRow 1000000 T) fs).2.2]⟩ ∧ h' = h.set n (.row 3 false (iv (layR 1000000 (eRow 1000000 T) fs).1)) ∧ n' = n + 1 := by
  have hl := hC.1
  have hEl := eRow_length 1000000 T
  have hfp : 0 < fs.length := List.length_pos_iff.2 h0
  have h0T : 0 < T.length := by have := hall fs[0] (List.getElem_mem hfp); omega
  have hEok : ∀ p ∈ eRow 1000000 T, EOk 1000000 p := by have := eRow_ok (C := 1000000) (by omega) (by decide) hC.2.1 T.length (Nat.le_refl _); rwa [List.take_length] at this
  have hxo : ∀ f ∈ fs, 0 ≤ f.2 ∧ f.2 < (eRow 1000000 T).length := fun f hf => by rw [eRow_length]; exact hall f hf
  have hfo : FOk 1000000 (eRow 1000000 T) fs := fun f hf => Ext.at_mem hEok (hxo f hf).1 (hxo f hf).2
  refine enter Try.func111 (by kernel_rfl) rfl (by kernel_rfl) rfl rfl rfl ?_
  (repeat' first | refine zcd ?_ | intro K' hK | (with_reducible refine zn hK ?_; clear hK) | ((with_reducible apply o_callF (g := 75) w_none); (case ha => exact ez0); (case hs => ((with_reducible apply rsizes_ev (T := T)); (case hT => first | exact hT | exact hT.set (by omega) _); (case hF => exact hC.2.1); (all_goals first | exact hk | omega))); (case' hk => rintro _ h' n' ⟨rfl, rfl, rfl⟩)) | ((with_reducible apply o_callF (g := 105) w_none); (case ha => exact ez0); (case hs => (((with_reducible apply rtog_ev (E := eRow 1000000 T) (fs := fs)); (case hk => exact hk); (case hm => exact hEl.symm); (case h0 => exact h0); (case hs => exact RdH.ofRow (e := 3) (ro := false) (by simp (disch := first | assumption | omega | rfl | decide) only [go_sem, seval, tys]) (by omega)); (case ha => exact RdH.ofRow (e := 3) (ro := false) (by simp (disch := first | assumption | omega | rfl | decide) only [go_sem, seval, tys]) (by omega)); (case hr => exact ezD hr); (case hl2 => omega); (case hf => exact hfo); (case hx => exact hxo)))); (case' hk => rintro _ h' n' ⟨rfl, rfl, rfl⟩)) | ((with_reducible first | apply zo1 | apply zo2 | apply o_guard rfl | apply x_cond | apply k_e1 rfl | apply k_e2 rfl | apply k_e0 rfl | apply k_e3 rfl | apply k_e4 rfl); (case he => exact ez0); (try case hok => exact ezO); all_goals try (intro hb; (try simp only [hbs, reduceCtorEq] at hb); try exact ezX)) | ((with_reducible apply o_undef rfl); (case hb => exact ez0)))
  refine sw_row ezI rfl (by omega) ez0 (iv_idA _ _) ezR ?_
  exact ⟨rfl, rfl, rfl⟩
end Go.Proofs.Ytcpkdjikembpnaa.Ce
namespace Go.Proofs.Ytcpkdjikembpnaa.Ce
open Go.RowKit
theorem OkV.at_eq {T : List Tp} {t : Nat} (ho : OkV T t) : (eRow 1048576 T).at_ (t : Int) = (eRow 1000000 T).at_ (t : Int) := by
  have hl := ho.lt
  exact ((ext_rel ho.chk.2.1).2 (t : Int) (by omega) (by rw [eRow_length]; omega)).big.2 ho.bnd.2
theorem OkV.lay_eq {T : List Tp} {t : Nat} (ho : OkV T t) (h5 : (T[t]'ho.lt).kd = 5) : layR 1048576 (eRow 1048576 T) (T[t]'ho.lt).fs = layR 1000000 (eRow 1000000 T) (T[t]'ho.lt).fs := by
  have hfl := ho.fld h5
  have hfi := ho.chk.2.1 t ho.lt
  have hlen := fine_len hfi
  have := (lay_same (E := eRow 1048576 T) (G := eRow 1000000 T) (fs := (T[t]'ho.lt).fs) (fun f hf => by
    obtain ⟨y, e, -, hy⟩ := hfl f hf
    rw [e]
    exact hy.at_eq) (fun f hf => by
    obtain ⟨y, e, -, hy⟩ := hfl f hf
    rw [e]
    exact ⟨hy.bnd.1, hy.bnd.2, (sizT_ok hy.chk hy.lt).2.2⟩) (by omega) (T[t]'ho.lt).fs.length (Nat.le_refl _)).1
  rwa [List.take_length] at this
variable (k d cl : Nat) (h : Hp) (n : Nat)
theorem rsize15_ev (hk : 30000 ≤ k) (A : Option Addr) (T : List Tp) (c : Nat) (hT : TabH h n A T) (t : Nat) (ho : OkV T t) :
    SQ k (d + 5) cl 85 [.slice A T.length c, .int .i64 t] h n fun v h' n' => v = .int .i64 (sizT T t) ∧ h = h' ∧ n = n' := by
  have hl := ho.lt
  have q := (sized_ev k d n h n hk A T c hT ho.chk.1 ho.chk.2.1 t (by omega) (by omega)).mono (Φ' := fun v h' n' => v = .int .i64 (sizT T t) ∧ h = h' ∧ n = n') fun _ _ _ hp => ⟨by rw [hp.1, ← ho.at_eq]; rfl, hp.2.1.symm, hp.2.2.symm⟩
  refine enter Try.func85 (by kernel_rfl) rfl (by kernel_rfl) rfl rfl rfl ?_
  (repeat' first | refine zcd ?_ | intro K' hK | (with_reducible refine zn hK ?_; clear hK) | ((with_reducible apply o_callF (g := 112) w_none); (case ha => exact ez0); (case hs => (exact q)); (case' hk => rintro _ h' n' ⟨rfl, rfl, rfl⟩)) | ((with_reducible first | apply zo1 | apply zo2 | apply o_guard rfl | apply x_cond | apply k_e1 rfl | apply k_e2 rfl | apply k_e0 rfl | apply k_e3 rfl | apply k_e4 rfl); (case he => exact ez0); (try case hok => exact ezO); all_goals try (intro hb; (try simp only [hbs, reduceCtorEq] at hb); try exact ezX)) | ((with_reducible apply o_undef rfl); (case hb => exact ez0)))
  all_goals exact sw_flat rfl rfl ⟨rfl, rfl, rfl⟩
def PartsV (ps os : List Int) (h : Hp) (n : Nat) (v : Value) (h' : Hp) (n' : Nat) : Prop :=
  v = .tuple ⟨[.slice (some ⟨n, 0, none⟩) ps.length ps.length, .slice (some ⟨n + 1, 0, none⟩) os.length os.length]⟩ ∧ h' = (h.set n (.row 3 false (iv ps))).set (n + 1) (.row 3 false (iv os)) ∧ n' = n + 2
theorem rpt_fld (hk : 30000 ≤ k) (A : Option Addr) (T : List Tp) (c : Nat) (hT : TabH h n A T) (t : Nat) (ho : OkV T t) (h5 : (T[t]'ho.lt).kd = 5) :
    SQ k (d + 5) cl 79 [.slice A T.length c, .int .i64 t] h n (PartsV (prtT (T[t]'ho.lt)) (offsT T (T[t]'ho.lt)) h n) := by
  have hl := ho.lt
  have hfi := ho.chk.2.1 t ho.lt
  have hlen := fine_len hfi
  have hfd := hT.fd _ (List.getElem_mem ho.lt)
  have hfl := ho.fld h5
  have hs0 := fine_some0 hfi h5
  have eo : offsT T (T[t]'ho.lt) = (layR 1000000 (eRow 1000000 T) (T[t]'ho.lt).fs).1 := by unfold offsT; rw [if_pos h5, ho.lay_eq h5]
  have hol := offsT_len (T := T) h5
  have ep : prtT (T[t]'ho.lt) = (T[t]'ho.lt).fs.map (·.2) := by unfold prtT; rw [fine_ln hfi (by omega)]; simp
  obtain ⟨tid, toff, hTA, htid, -, t0, -, -, t3⟩ := hT.at_ ho.lt
  subst hTA
  have qt := fun (h6 : Hp) (n6 : Nat) (hT6 : TabH h6 n6 (some ⟨tid, toff, none⟩) T) (hr6 : RdH h6 n6 (T[t]'ho.lt).A (fv (T[t]'ho.lt).fs)) => rtogr_ev k d n h6 n6 hk (some ⟨tid, toff, none⟩) T c hT6 (T[t]'ho.lt).A (T[t]'ho.lt).fs (T[t]'ho.lt).c hr6 (by omega) ho.chk (fun e => by rw [e] at hs0; exact absurd hs0 (by simp)) (fun f hf => by obtain ⟨y, e, -, hy⟩ := hfl f hf; have := hy.lt; omega)
  unfold PartsV
  rw [← eo] at qt
  obtain ⟨X, hX⟩ : ∃ X, T[t]'ho.lt = X := ⟨_, rfl⟩
  simp only [hX] at h5 hfi hlen hfd t0 t3 qt ep eo hol hs0 ⊢
  obtain ⟨offs, hoffs⟩ : ∃ offs, offsT T X = offs := ⟨_, rfl⟩
  obtain ⟨prs, hprs⟩ : ∃ prs, prtT X = prs := ⟨_, rfl⟩
  simp only [hoffs] at qt hol ⊢
  rw [hprs] at ep ⊢
  obtain ⟨up, hup⟩ : ∃ up, upI (layR 1000000 (eRow 1000000 T) X.fs).2.1 (layR 1000000 (eRow 1000000 T) X.fs).2.2 = up := ⟨_, rfl⟩
  obtain ⟨al, hal⟩ : ∃ al, (layR 1000000 (eRow 1000000 T) X.fs).2.2 = al := ⟨_, rfl⟩
  simp only [hup, hal] at qt
  obtain ⟨kd, el, ln, fs, FA, fc⟩ := X
  dsimp only at h5 hlen hfd t0 t3 qt ep hol hs0
  subst h5
  clear hfi
  refine enter Try.func79 (by kernel_rfl) rfl (by kernel_rfl) rfl rfl rfl ?_
  (repeat' first | refine zcd ?_ | intro K' hK | (with_reducible refine zn hK ?_; clear hK) | fail | ((with_reducible first | apply zo1 | apply zo2 | apply o_guard rfl | apply x_cond | apply k_e1 rfl | apply k_e2 rfl | apply k_e0 rfl | apply k_e3 rfl | apply k_e4 rfl); (case he => exact ez1 t0); (try case hok => exact ezO); all_goals try (intro hb; (try simp only [hbs, reduceCtorEq] at hb); try exact ezX)) | ((with_reducible apply o_undef rfl); (case hb => exact ez0)))
  refine x_loopV [6, 7, 20, 21, 22, 23, 24, 25, 26, 27, 28, 29, 30, 31, 32, 33, 34, 35, 36, 37, 38, 39, 40, 41] [6, 7] (fun m vs h5 n5 => ∃ (q : Nat) (O : Value), m = fs.length - q ∧ q ≤ fs.length ∧ vs = [O, .int .i64 q] ∧ n ≤ n5 ∧ TabH h5 n (some ⟨tid, toff, none⟩) T ∧ RdH h5 n FA (fv fs) ∧ OwnI ((fs.take q).map (·.2)) O h5 n n5) fs.length rfl (by omega) ?_ ?_
  · exact ⟨0, .slice none 0 0, rfl, by omega, ez0, by omega, hT, hfd, .inl ⟨rfl, rfl⟩⟩
  · rintro m g _ h5 n5 ⟨q, O, rfl, hq, rfl, hn5, r1, r2, hO⟩
    obtain ⟨_, _, hA2, -, -, -, -, -, t3⟩ := r1.at_ ho.lt
    injection hA2 with hA2
    injection hA2 with z1 z2
    subst z1
    subst z2
    rw [hX] at t3
    dsimp only at t3
    by_cases hqf : q < fs.length
    · obtain ⟨id2, off2, rfl, hid2, -, -, hfa⟩ := fld_at r2 hqf
      obtain ⟨ty, hty⟩ : ∃ ty, (fs[q]).2 = ty := ⟨_, rfl⟩
      rw [hty] at hfa
      have htk : (fs.take (q + 1)).map (·.2) = (fs.take q).map (·.2) ++ [ty] := by rw [List.take_succ_eq_append_getElem hqf, List.map_append, ← hty]; rfl
      have htl : ((fs.take q).map (·.2)).length = q := by rw [List.length_map, List.length_take]; omega
      obtain ⟨acc, hacc⟩ : ∃ acc, (fs.take q).map (·.2) = acc := ⟨_, rfl⟩
      rw [hacc] at hO htk htl
      rcases hO with ⟨hp0, rfl⟩ | ⟨hp0, id, k1, k2, rfl, q4⟩
      · (repeat' first | refine zcd ?_ | intro K' hK | (with_reducible refine zn hK ?_; clear hK) | ((with_reducible apply o_ap0 (t := 99) apT99 w_none); (case hs => exact ez0); (case hy => exact ez0); (case hsrc => exact src_row (rowOf_same _ _ _ _ _) rfl); (case hc => exact rfl); (case hm => omega); (case h0 => omega)) | ((with_reducible first | apply zo1 | apply zo2 | apply o_guard rfl | apply x_cond | apply k_e1 rfl | apply k_e2 rfl | apply k_e0 rfl | apply k_e3 rfl | apply k_e4 rfl); (case he => exact ez2 hfa t3); (try case hok => exact ezO); all_goals try (intro hb; (try simp only [hbs, reduceCtorEq] at hb); try exact ezX)) | ((with_reducible apply o_undef rfl); (case hb => exact ez0)))
        refine k_round (fs.length - (q + 1)) (by omega) ⟨q + 1, .slice (some ⟨n5 + 1, 0, none⟩) 1 1, rfl, by omega, ez0, by omega, (ezT r1), (ezD r2), .inr ⟨by rw [htk]; simp, n5 + 1, by omega, by omega, by rw [htk, hp0]; rfl, by rw [htk, hp0]; exact rowOf_same _ _ _ _ _⟩⟩
      · have w4 := rwOf_row q4
        have htw : (iv acc).take acc.length = iv acc := List.take_of_length_le (by rw [iv_length]; omega)
        (repeat' first | refine zcd ?_ | intro K' hK | (with_reducible refine zn hK ?_; clear hK) | ((with_reducible apply o_apR (t := 99) apT99 w_none); (case hs => exact ez1 w4); (case hy => exact ez1 w4); (case hsrc => exact src_row (rowOf_same _ _ _ _ _) rfl); (case hr => exact ez1 w4); (case hc => exact rfl); (case hm => omega); (case hli => omega); (case hln => omega); (case hcs => rw [iv_length]; omega)) | ((with_reducible first | apply zo1 | apply zo2 | apply o_guard rfl | apply x_cond | apply k_e1 rfl | apply k_e2 rfl | apply k_e0 rfl | apply k_e3 rfl | apply k_e4 rfl); (case he => exact ez3 hfa t3 w4); (try case hok => exact ezO); all_goals try (intro hb; (try simp only [hbs, reduceCtorEq] at hb); try exact ezX)) | ((with_reducible apply o_undef rfl); (case hb => exact ez0)))
        refine k_round (fs.length - (q + 1)) (by omega) ⟨q + 1, .slice (some ⟨n5 + 1, 0, none⟩) (acc.length + 1) (acc.length + 1), rfl, by omega, ez0, by omega, (ezT r1), (ezD r2), .inr ⟨by rw [htk]; simp, n5 + 1, by omega, by omega, by rw [htk, List.length_append]; rfl, by rw [htk, iv_app1]; exact ez1 htw⟩⟩
    · obtain rfl : q = fs.length := by omega
      rw [List.take_length, ← ep] at hO
      rcases hO with ⟨hp0, -⟩ | ⟨hp0, id, k1, k2, rfl, q4⟩
      · rw [ep] at hp0
        have := congrArg List.length hp0
        simp at this
        rw [this] at hs0
        exact absurd hs0 (by simp)
      · (repeat' first | refine zcd ?_ | intro K' hK | (with_reducible refine zn hK ?_; clear hK) | ((with_reducible apply o_callF (g := 111) w_none); (case ha => exact ez0); (case hs => ((with_reducible apply qt); (all_goals first | exact r1.more (by omega) | exact r2.more (by omega)))); (case' hk => rintro _ h' n' ⟨rfl, rfl, rfl⟩)) | ((with_reducible first | apply zo1 | apply zo2 | apply o_guard rfl | apply x_cond | apply k_e1 rfl | apply k_e2 rfl | apply k_e0 rfl | apply k_e3 rfl | apply k_e4 rfl); (case he => exact ez1 t3); (try case hok => exact ezO); all_goals try (intro hb; (try simp only [hbs, reduceCtorEq] at hb); try exact ezX)) | ((with_reducible apply o_undef rfl); (case hb => exact ez0)))
        have hne : id ≠ n5 := by omega
        rw [← hol]
        refine sw_row2 (m1 := id) (m2 := n5) ezI hne rfl (by omega) (by omega) (by rw [rowOf_ne _ _ (by omega)]; exact q4) (rowOf_same _ _ _ _ _) (iv_idA _ _) (iv_idA _ _) (by simp only [reV_tuple, reV1_slice, List.map_cons, List.map_nil, reN_one, reN_two hne]; exact rfl) ?_
        exact ⟨rfl, rfl, rfl⟩
theorem rpt_arr (hk : 30000 ≤ k) (A : Option Addr) (T : List Tp) (c : Nat) (hT : TabH h n A T) (t : Nat) (ho : OkV T t) (h6 : (T[t]'ho.lt).kd = 6) :
    SQ k (d + 6) cl 79 [.slice A T.length c, .int .i64 t] h n (PartsV (prtT (T[t]'ho.lt)) (offsT T (T[t]'ho.lt)) h n) := by
  have hl := ho.lt
  have hfi := ho.chk.2.1 t ho.lt
  obtain ⟨hel0, hel1, hl0, hl1⟩ := fine_arr hfi h6
  have hnf := fine_nofs hfi (by omega)
  obtain ⟨y, hy, hyt, hoy⟩ := ho.elm h6
  obtain ⟨z, hz⟩ : ∃ z, sizT T y = z := ⟨_, rfl⟩
  have hzb := hoy.bnd
  have qs := fun (h6 : Hp) (n6 : Nat) (hT6 : TabH h6 n6 A T) => rsize15_ev k d n h6 n6 hk A T c hT6 y hoy
  rw [hz] at hzb qs
  obtain ⟨tid, toff, hTA, htid, -, t0, -, -, -⟩ := hT.at_ ho.lt
  subst hTA
  unfold PartsV
  obtain ⟨X, hX⟩ : ∃ X, T[t]'ho.lt = X := ⟨_, rfl⟩
  simp only [hX] at h6 hl0 hl1 hnf hy t0 ⊢
  obtain ⟨kd, el, ln, fs, FA, fc⟩ := X
  dsimp only at h6 hl0 hl1 hnf hy t0
  subst h6
  subst hnf
  subst hy
  obtain ⟨m, rfl⟩ := Int.eq_ofNat_of_zero_le (show 0 ≤ ln by omega)
  have ep : prtT ⟨6, y, (m : Int), [], FA, fc⟩ = List.replicate m (y : Int) := by unfold prtT; simp
  have eo : offsT T ⟨6, y, (m : Int), [], FA, fc⟩ = (List.range m).map fun (i : Nat) => (i : Int) * z := by unfold offsT; dsimp only; rw [if_neg (by decide), Int.toNat_natCast, Int.toNat_natCast, hz]
  rw [ep, eo]
  rw [List.length_map, List.length_range, List.length_replicate]
  clear ep eo
  refine enter Try.func79 (by kernel_rfl) rfl (by kernel_rfl) rfl rfl rfl ?_
  (repeat' first | refine zcd ?_ | intro K' hK | (with_reducible refine zn hK ?_; clear hK) | fail | ((with_reducible first | apply zo1 | apply zo2 | apply o_guard rfl | apply x_cond | apply k_e1 rfl | apply k_e2 rfl | apply k_e0 rfl | apply k_e3 rfl | apply k_e4 rfl); (case he => exact ez1 t0); (try case hok => exact ezO); all_goals try (intro hb; (try simp only [hbs, reduceCtorEq] at hb); try exact ezX)) | ((with_reducible apply o_undef rfl); (case hb => exact ez0)))
  refine x_loopV [11, 12, 13, 55, 56, 57, 58, 59, 60, 61, 62, 63, 64, 65, 66, 67, 68, 69, 70, 71, 72, 73, 74, 75, 76, 77, 78, 79, 80, 81, 82, 83] [11, 12, 13] (fun r vs h5 n5 => ∃ (q : Nat) (OP OQ : Value), r = m - q ∧ q ≤ m ∧ vs = [OP, OQ, .int .i64 q] ∧ n ≤ n5 ∧ TabH h5 n (some ⟨tid, toff, none⟩) T ∧
      ((q = 0 ∧ OP = .slice none 0 0 ∧ OQ = .slice none 0 0) ∨ (0 < q ∧ ∃ i1 i2, n ≤ i1 ∧ i1 < n5 ∧ n ≤ i2 ∧ i2 < n5 ∧ i1 ≠ i2 ∧ OP = .slice (some ⟨i1, 0, none⟩) q q ∧ OQ = .slice (some ⟨i2, 0, none⟩) q q ∧
            rowOf h5 i1 = some (3, false, iv (List.replicate q (y : Int))) ∧ rowOf h5 i2 = some (3, false, iv ((List.range q).map fun (i : Nat) => (i : Int) * z))))) m rfl (by omega) ?_ ?_
  · exact ⟨0, _, _, rfl, by omega, ez0, by omega, hT, .inl ⟨rfl, rfl, rfl⟩⟩
  · rintro r g1 _ h5 n5 ⟨q, OP, OQ, rfl, hq, rfl, hn5, r1, hO⟩
    obtain ⟨_, _, hA2, -, -, -, t1, t2, -⟩ := r1.at_ ho.lt
    injection hA2 with hA2
    injection hA2 with z1 z2
    subst z1
    subst z2
    rw [hX] at t1 t2
    dsimp only at t1 t2
    by_cases hqn : q < m
    · have hmu : 0 ≤ (q : Int) * z ∧ (q : Int) * z ≤ 16 * 256 := ⟨Int.mul_nonneg (by omega) hzb.1, Int.mul_le_mul (by omega) hzb.2 hzb.1 (by omega)⟩
      have hrep : List.replicate (q + 1) (y : Int) = List.replicate q (y : Int) ++ [(y : Int)] := by rw [List.replicate_succ']
      obtain ⟨qz, hqze⟩ : ∃ qz, (q : Int) * z = qz := ⟨_, rfl⟩
      rw [hqze] at hmu
      have hran : (List.range (q + 1)).map (fun (i : Nat) => (i : Int) * z) = (List.range q).map (fun (i : Nat) => (i : Int) * z) ++ [qz] := by rw [List.range_succ, List.map_append, ← hqze]; rfl
      rcases hO with ⟨rfl, rfl, rfl⟩ | ⟨hq0, i1, i2, j1, j2, j3, j4, j5, rfl, rfl, q1, q2⟩
      · (repeat' first | refine zcd ?_ | intro K' hK | (with_reducible refine zn hK ?_; clear hK) | (with_reducible refine x_drawnD (id := 13) [(5, 15), (7, 15)] (by kernel_rfl) fun K' hK => ?_) | ((with_reducible apply d_nil); (case hp => exact ezP); (case' hx => (refine hK _ _ _ ?_; clear hK))) | ((with_reducible apply d_pure w_none); (case hp => exact rfl); (case hc => exact rfl); (case he => exact ez3 t1 t2 hqze)) | ((with_reducible apply d_eff w_none); (case hc => exact rfl); (case he => exact ez3 t1 t2 hqze); (case hok => exact ezO)) | ((with_reducible apply d_guard rfl); (case hb => exact ez3 t1 t2 hqze); (case' h1 => intro hb; (try simp only [hbs, reduceCtorEq] at hb); try exact ezX); (case' h2 => intro hb; (try simp only [hbs, reduceCtorEq] at hb); try exact ezX)) | ((with_reducible apply d_ap0 (t := 99) apT99 w_none); (case hs => exact ez1 t1); (case hy => exact ez0); (case hsrc => exact src_row (rowOf_same _ _ _ _ _) rfl); (case hc => exact rfl); (case hm => omega); (case h0 => omega); (case' hx => intro rd)) | ((with_reducible apply d_callS (g := 85) w_none); (case hs0 => exact rfl); (case ha => exact ez0); (case hs => ((with_reducible apply qs); exact ezT r1)); (case' hk => rintro _ h' n' ⟨rfl, rfl, rfl⟩)) | ((with_reducible first | apply zo1 | apply zo2 | apply o_guard rfl | apply x_cond | apply k_e1 rfl | apply k_e2 rfl | apply k_e0 rfl | apply k_e3 rfl | apply k_e4 rfl); (case he => exact ez2 t1 t2); (try case hok => exact ezO); all_goals try (intro hb; (try simp only [hbs, reduceCtorEq] at hb); try exact ezX)) | ((with_reducible apply o_undef rfl); (case hb => exact ez0)))
        refine k_round (m - 1) (by omega) ⟨1, .slice (some ⟨n5 + 1, 0, none⟩) 1 1, .slice (some ⟨n5 + 1 + 1 + 1, 0, none⟩) 1 1, rfl, by omega, ez0, by omega, (ezT r1), .inr ⟨by omega, n5 + 1, n5 + 1 + 1 + 1, by omega, by omega, by omega, by omega, by omega, rfl, rfl, by rw [rowOf_ne _ _ (by omega), rowOf_ne _ _ (by omega), rowOf_same]; rfl, ?_⟩⟩
        rw [hran, rowOf_same, ← hqze]
        exact rfl
      · have w1 := rwOf_row q1
        have w2 := rwOf_row q2
        have ht1 : (iv (List.replicate q (y : Int))).take q = iv (List.replicate q (y : Int)) := List.take_of_length_le (by rw [iv_length, List.length_replicate]; omega)
        have ht2 : (iv ((List.range q).map fun (i : Nat) => (i : Int) * z)).take q = iv ((List.range q).map fun (i : Nat) => (i : Int) * z) := List.take_of_length_le (by rw [iv_length, List.length_map, List.length_range]; omega)
        (repeat' first | refine zcd ?_ | intro K' hK | (with_reducible refine zn hK ?_; clear hK) | (with_reducible refine x_drawnD (id := 13) [(5, 15), (7, 15)] (by kernel_rfl) fun K' hK => ?_) | ((with_reducible apply d_nil); (case hp => exact ezP); (case' hx => (refine hK _ _ _ ?_; clear hK))) | ((with_reducible apply d_pure w_none); (case hp => exact rfl); (case hc => exact rfl); (case he => exact ez5 t1 t2 hqze w1 w2)) | ((with_reducible apply d_eff w_none); (case hc => exact rfl); (case he => exact ez5 t1 t2 hqze w1 w2); (case hok => exact ezO)) | ((with_reducible apply d_guard rfl); (case hb => exact ez5 t1 t2 hqze w1 w2); (case' h1 => intro hb; (try simp only [hbs, reduceCtorEq] at hb); try exact ezX); (case' h2 => intro hb; (try simp only [hbs, reduceCtorEq] at hb); try exact ezX)) | ((with_reducible apply d_apR (t := 99) apT99 w_none); (case hs => exact ez2 w1 w2); (case hy => exact ez2 w1 w2); (case hsrc => exact src_row (rowOf_same _ _ _ _ _) rfl); (case hr => exact ez2 w1 w2); (case hc => exact rfl); (case hm => omega); (case hli => omega); (case hln => omega); (case hcs => first | (rw [iv_length, List.length_replicate]; omega) | (rw [iv_length, List.length_map, List.length_range]; omega)); (case' hx => intro rd)) | ((with_reducible apply d_callS (g := 85) w_none); (case hs0 => exact rfl); (case ha => exact ez0); (case hs => ((with_reducible apply qs); exact ezT r1)); (case' hk => rintro _ h' n' ⟨rfl, rfl, rfl⟩)) | ((with_reducible first | apply zo1 | apply zo2 | apply o_guard rfl | apply x_cond | apply k_e1 rfl | apply k_e2 rfl | apply k_e0 rfl | apply k_e3 rfl | apply k_e4 rfl); (case he => exact ez4 t1 t2 w1 w2); (try case hok => exact ezO); all_goals try (intro hb; (try simp only [hbs, reduceCtorEq] at hb); try exact ezX)) | ((with_reducible apply o_undef rfl); (case hb => exact ez0)))
        refine k_round (m - (q + 1)) (by omega) ⟨q + 1, .slice (some ⟨n5 + 1, 0, none⟩) (q + 1) (q + 1), .slice (some ⟨n5 + 1 + 1 + 1, 0, none⟩) (q + 1) (q + 1), rfl, by omega, ez0, by omega, (ezT r1), .inr ⟨by omega, n5 + 1, n5 + 1 + 1 + 1, by omega, by omega, by omega, by omega, by omega, rfl, rfl, ?_, ?_⟩⟩
        · rw [hrep, iv_app1]
          (repeat rw [rowOf_ne _ _ (by omega)])
          rw [rowOf_same]
          exact ez1 ht1
        · rw [hran, iv_app1, rowOf_same]
          exact ez1 ht2
    · obtain rfl : q = m := by omega
      rcases hO with ⟨rfl, rfl, rfl⟩ | ⟨hq0, i1, i2, j1, j2, j3, j4, j5, rfl, rfl, q1, q2⟩
      · omega
      · (repeat' first | refine zcd ?_ | intro K' hK | (with_reducible refine zn hK ?_; clear hK) | fail | ((with_reducible first | apply zo1 | apply zo2 | apply o_guard rfl | apply x_cond | apply k_e1 rfl | apply k_e2 rfl | apply k_e0 rfl | apply k_e3 rfl | apply k_e4 rfl); (case he => exact ez1 t2); (try case hok => exact ezO); all_goals try (intro hb; (try simp only [hbs, reduceCtorEq] at hb); try exact ezX)) | ((with_reducible apply o_undef rfl); (case hb => exact ez0)))
        refine sw_row2 (m1 := i1) (m2 := i2) ezI j5 rfl (by omega) (by omega) q1 q2 (iv_idA _ _) (iv_idA _ _) (by simp only [reV_tuple, reV1_slice, List.map_cons, List.map_nil, reN_one, reN_two j5]; exact rfl) ?_
        exact ⟨rfl, rfl, rfl⟩
end Go.Proofs.Ytcpkdjikembpnaa.Ce
namespace Go.Proofs.Ytcpkdjikembpnaa.Ce
open Go.RowKit
variable (k d cl : Nat) (h : Hp) (n : Nat)
theorem rfollowed_ev (hk : 30000 ≤ k) (TA A : Option Addr) (T : List Tp) (L : List Rg) (tc gc : Nat) (hT : TabH h n TA T) (hm : T.length ≤ 9223372036854775807) (hR : RgH h n A L) (hl : L.length ≤ 100) (hE : lstE L = 0) (t : Nat) (ht : t < T.length) (x : Tp) (hx : T[t] = x) (hkd : 0 ≤ x.kd ∧ x.kd < 256) (y : Nat) (hy : x.el = (y : Int)) (ho : OkV T y) (a : Int) (ha0 : 0 ≤ a) (ha1 : a < 18446744073709551616) (nn most dp : Nat) (hnm : nn ≤ most) (hm16 : most ≤ 16) (hdp : dp ≤ 3) (g : Nat → List UInt8 → Nat → Except Int V)
    (ih : 1 ≤ dp → ∀ (cl : Nat) (h6 : Hp) (n6 : Nat) (a' : Int) (bs : List UInt8), TabH h6 n6 TA T → RgH h6 n6 A L → AtB L a' bs → sizT T y ≤ bs.length → bs.length ≤ 20000 →
      SQ k (d + 6) cl 44 [.slice TA T.length tc, .slice A L.length gc, .int .u64 a', .int .i64 (y : Int), .int .i64 ((dp - 1 : Nat) : Int)] h6 n6 (LdV (g (dp - 1) bs y) h6 n6)) :
    SQ k (d + 8) cl 107 [.slice TA T.length tc, .slice A L.length gc, .int .u64 a, .int .i64 t, .int .i64 nn, .int .i64 most, .int .i64 dp] h n (LdV (folP g T L x a nn most dp) h n) := by
  obtain ⟨z, hz⟩ : ∃ z, sizT T y = z := ⟨_, rfl⟩
  have hzb := ho.bnd
  rw [hz] at hzb
  have hmu : 0 ≤ z * (most : Int) ∧ z * (most : Int) ≤ 256 * 16 := ⟨Int.mul_nonneg hzb.1 (by omega), Int.mul_le_mul hzb.2 (by omega) (by omega) (by omega)⟩
  obtain ⟨w, hw⟩ := Int.eq_ofNat_of_zero_le hmu.1
  have hfolw : folP g T L x a nn most dp = match findB L a w with
      | none => .error 16
      | some b => if nn = 0 then .ok (.mk x.kd 0 [] [] false) else if dp = 0 then .ok (.mk x.kd 0 [] [] true)
        else asV x.kd (listP (g (dp - 1)) b ((List.range nn).map fun (i : Nat) => ((y : Int), (i : Int) * z))) := by
    unfold folP
    rw [hy, Int.toNat_natCast, hz, hw, Int.toNat_natCast]
    rfl
  rw [hfolw]
  have hw16 : w ≤ 4096 := by omega
  have qs := fun (h6 : Hp) (n6 : Nat) (hT6 : TabH h6 n6 TA T) => rsize15_ev k (d + 2) n h6 n6 hk TA T tc hT6 y ho
  rw [hz] at qs
  have qf := fun (h6 : Hp) (n6 : Nat) (hR6 : RgH h6 n6 A L) => there_ev k (d + 5) n h6 n6 hk A L gc hR6 hl (lst_chk hE) a w ha0 ha1 (by omega) (by omega)
  obtain ⟨tid, toff, hTA, htid, -, t0, t1, -, -⟩ := hT.at_ ht
  subst hTA
  simp only [hx] at t0 t1
  rw [hy] at t1
  cases hf : findB L a w with
  | none =>
    rw [there_no hf] at qf
    dsimp only
    refine enter Try.func107 (by kernel_rfl) rfl (by kernel_rfl) rfl rfl rfl ?_
    (repeat' first | refine zcd ?_ | intro K' hK | (with_reducible refine zn hK ?_; clear hK) | ((with_reducible apply o_callF (g := 85) w_none); (case ha => exact ez0); (case hs => ((with_reducible apply qs); exact ezT hT)); (case' hk => rintro _ h' n' ⟨rfl, rfl, rfl⟩)) | ((with_reducible apply o_callF (g := 109) w_none); (case ha => exact ez0); (case hs => ((with_reducible apply qf); exact ezG hR)); (case' hk => rintro _ h' n' ⟨rfl, rfl, rfl⟩)) | ((with_reducible first | apply zo1 | apply zo2 | apply o_guard rfl | apply x_cond | apply k_e1 rfl | apply k_e2 rfl | apply k_e0 rfl | apply k_e3 rfl | apply k_e4 rfl); (case he => exact ez3 t0 t1 hw); (try case hok => exact ezO); all_goals try (intro hb; (try simp only [hbs, reduceCtorEq] at hb); try exact ezX)) | ((with_reducible apply o_undef rfl); (case hb => exact ez0)))
    all_goals exact sw_flat rfl rfl ⟨rfl, by decide, rfl, rfl⟩
  | some ys =>
    have hyl := findB_len hf
    have hat := findB_at hf
    obtain ⟨rg, hrg, e2, g1, g2, g3⟩ := there_some hf
    rw [e2] at qf
    dsimp only
    by_cases hd0 : dp = 0
    · subst hd0
      by_cases hn0 : nn = 0
      · subst hn0
        rw [if_pos rfl]
        refine enter Try.func107 (by kernel_rfl) rfl (by kernel_rfl) rfl rfl rfl ?_
        (repeat' first | refine zcd ?_ | intro K' hK | (with_reducible refine zn hK ?_; clear hK) | ((with_reducible apply o_callF (g := 85) w_none); (case ha => exact ez0); (case hs => ((with_reducible apply qs); exact ezT hT)); (case' hk => rintro _ h' n' ⟨rfl, rfl, rfl⟩)) | ((with_reducible apply o_callF (g := 109) w_none); (case ha => exact ez0); (case hs => ((with_reducible apply qf); exact ezG hR)); (case' hk => rintro _ h' n' ⟨rfl, rfl, rfl⟩)) | ((with_reducible first | apply zo1 | apply zo2 | apply o_guard rfl | apply x_cond | apply k_e1 rfl | apply k_e2 rfl | apply k_e0 rfl | apply k_e3 rfl | apply k_e4 rfl); (case he => exact ez3 t0 t1 hw); (try case hok => exact ezO); all_goals try (intro hb; (try simp only [hbs, reduceCtorEq] at hb); try exact ezX)) | ((with_reducible apply o_undef rfl); (case hb => exact ez0)))
        all_goals exact sw_flat rfl rfl ⟨_, rfl, .leaf x.kd 0 [] false, Nat.le_refl _, fun _ _ => rfl⟩
      · rw [if_neg hn0, if_pos rfl]
        refine enter Try.func107 (by kernel_rfl) rfl (by kernel_rfl) rfl rfl rfl ?_
        (repeat' first | refine zcd ?_ | intro K' hK | (with_reducible refine zn hK ?_; clear hK) | ((with_reducible apply o_callF (g := 85) w_none); (case ha => exact ez0); (case hs => ((with_reducible apply qs); exact ezT hT)); (case' hk => rintro _ h' n' ⟨rfl, rfl, rfl⟩)) | ((with_reducible apply o_callF (g := 109) w_none); (case ha => exact ez0); (case hs => ((with_reducible apply qf); exact ezG hR)); (case' hk => rintro _ h' n' ⟨rfl, rfl, rfl⟩)) | ((with_reducible first | apply zo1 | apply zo2 | apply o_guard rfl | apply x_cond | apply k_e1 rfl | apply k_e2 rfl | apply k_e0 rfl | apply k_e3 rfl | apply k_e4 rfl); (case he => exact ez3 t0 t1 hw); (try case hok => exact ezO); all_goals try (intro hb; (try simp only [hbs, reduceCtorEq] at hb); try exact ezX)) | ((with_reducible apply o_undef rfl); (case hb => exact ez0)))
        have hnd : decide ((nn : Int) > 0) = true := by simp; omega
        all_goals exact sw_flat rfl rfl ⟨_, rfl, (by rw [hnd]; exact FH.leaf x.kd 0 [] true), Nat.le_refl _, fun _ _ => rfl⟩
    · have hif : (if nn = 0 then Except.ok (V.mk x.kd 0 [] [] false) else if dp = 0 then .ok (.mk x.kd 0 [] [] true) else asV x.kd (listP (g (dp - 1)) ys ((List.range nn).map fun (i : Nat) => ((y : Int), (i : Int) * z)))) = asV x.kd (listP (g (dp - 1)) ys ((List.range nn).map fun (i : Nat) => ((y : Int), (i : Int) * z))) := by
        by_cases hn0 : nn = 0
        · subst hn0
          rw [if_pos rfl]
          rfl
        · rw [if_neg hn0, if_neg hd0]
      rw [hif]
      clear hif hfolw
      refine enter Try.func107 (by kernel_rfl) rfl (by kernel_rfl) rfl rfl rfl ?_
      (repeat' first | refine zcd ?_ | intro K' hK | (with_reducible refine zn hK ?_; clear hK) | ((with_reducible apply o_callF (g := 85) w_none); (case ha => exact ez0); (case hs => ((with_reducible apply qs); exact ezT hT)); (case' hk => rintro _ h' n' ⟨rfl, rfl, rfl⟩)) | ((with_reducible apply o_callF (g := 109) w_none); (case ha => exact ez0); (case hs => ((with_reducible apply qf); exact ezG hR)); (case' hk => rintro _ h' n' ⟨rfl, rfl, rfl⟩)) | ((with_reducible first | apply zo1 | apply zo2 | apply o_guard rfl | apply x_cond | apply k_e1 rfl | apply k_e2 rfl | apply k_e0 rfl | apply k_e3 rfl | apply k_e4 rfl); (case he => exact ez3 t0 t1 hw); (try case hok => exact ezO); all_goals try (intro hb; (try simp only [hbs, reduceCtorEq] at hb); try exact ezX)) | ((with_reducible apply o_undef rfl); (case hb => exact ez0)))
      have hzq : ∀ q : Nat, q < nn → 0 ≤ (q : Int) * z ∧ (q : Int) * z + z ≤ w := fun q hq => by
        have h1 : ((q : Int) + 1) * z ≤ (most : Int) * z := Int.mul_le_mul_of_nonneg_right (by omega) hzb.1
        rw [Int.add_mul, Int.one_mul, Int.mul_comm (most : Int) z, hw] at h1
        exact ⟨Int.mul_nonneg (by omega) hzb.1, h1⟩
      have hdp1 : (dp : Int) - 1 = ((dp - 1 : Nat) : Int) := by omega
      refine x_loopV [19, 20, 21, 51, 52, 53, 54, 55, 56, 57, 58, 59, 60, 61, 62, 63, 64, 65, 66, 67, 68, 69] [19, 20, 21] (fun r vs h5 n5 => ∃ (q : Nat) (OP OQ : Value), r = nn - q ∧ q ≤ nn ∧ vs = [OP, OQ, .int .i64 q] ∧ n + 2 ≤ n5 ∧ (∀ b, b < n → h5.get b = h.get b) ∧
        rowOf h5 n = some (32, false, vcell 0 0 [] none 0 0 false) ∧
        ((q = 0 ∧ OP = .slice none 0 0 ∧ OQ = .slice none 0 0) ∨ (0 < q ∧ ∃ i1 i2, n + 2 ≤ i1 ∧ i1 < n5 ∧ n + 2 ≤ i2 ∧ i2 < n5 ∧ i1 ≠ i2 ∧ OP = .slice (some ⟨i1, 0, none⟩) q q ∧ OQ = .slice (some ⟨i2, 0, none⟩) q q ∧
          rowOf h5 i1 = some (3, false, iv (List.replicate q (y : Int))) ∧ rowOf h5 i2 = some (3, false, iv ((List.range q).map fun (i : Nat) => (i : Int) * z))))) nn rfl (by omega) ?_ ?_
      · exact ⟨0, _, _, rfl, by omega, ez0, by omega, ezN, ez0, .inl ⟨rfl, rfl, rfl⟩⟩
      · rintro r g1 _ h5 n5 ⟨q, OP, OQ, rfl, hq, rfl, hn5, hkp, rV, hO⟩
        have r1 : TabH h5 n (some ⟨tid, toff, none⟩) T := hT.keep (Nat.le_refl _) hkp
        have r2 : RgH h5 n A L := hR.keep (Nat.le_refl _) hkp
        obtain ⟨_, _, hA2, -, -, -, t1, -, -⟩ := r1.at_ ht
        injection hA2 with hA2
        injection hA2 with z1 z2
        subst z1
        subst z2
        rw [hx, hy] at t1
        by_cases hqn : q < nn
        · have hqz := hzq q hqn
          obtain ⟨qz, hqze⟩ : ∃ qz, (q : Int) * z = qz := ⟨_, rfl⟩
          rw [hqze] at hqz
          have hrep : List.replicate (q + 1) (y : Int) = List.replicate q (y : Int) ++ [(y : Int)] := by rw [List.replicate_succ']
          have hran : (List.range (q + 1)).map (fun (i : Nat) => (i : Int) * z) = (List.range q).map (fun (i : Nat) => (i : Int) * z) ++ [qz] := by rw [List.range_succ, List.map_append, ← hqze]; rfl
          rcases hO with ⟨rfl, rfl, rfl⟩ | ⟨hq0, i1, i2, j1, j2, j3, j4, j5, rfl, rfl, q1, q2⟩
          · (repeat' first | refine zcd ?_ | intro K' hK | (with_reducible refine zn hK ?_; clear hK) | ((with_reducible apply o_ap0 (t := 99) apT99 w_none); (case hs => exact ez0); (case hy => exact ez0); (case hsrc => exact src_row (rowOf_same _ _ _ _ _) rfl); (case hc => exact rfl); (case hm => omega); (case h0 => omega)) | ((with_reducible first | apply zo1 | apply zo2 | apply o_guard rfl | apply x_cond | apply k_e1 rfl | apply k_e2 rfl | apply k_e0 rfl | apply k_e3 rfl | apply k_e4 rfl); (case he => exact ez2 t1 hqze); (try case hok => exact ezO); all_goals try (intro hb; (try simp only [hbs, reduceCtorEq] at hb); try exact ezX)) | ((with_reducible apply o_undef rfl); (case hb => exact ez0)))
            refine k_round (nn - 1) (by omega) ⟨1, .slice (some ⟨n5 + 1, 0, none⟩) 1 1, .slice (some ⟨n5 + 1 + 1 + 1, 0, none⟩) 1 1, rfl, by omega, ez0, by omega, (ezB hkp), (ezW rV), .inr ⟨by omega, n5 + 1, n5 + 1 + 1 + 1, by omega, by omega, by omega, by omega, by omega, rfl, rfl, by rw [rowOf_ne _ _ (by omega), rowOf_ne _ _ (by omega), rowOf_same]; rfl, ?_⟩⟩
            rw [hran, ← hqze, rowOf_same]
            simp [iv]
          · have w1 := rwOf_row q1
            have w2 := rwOf_row q2
            have ht1 : (iv (List.replicate q (y : Int))).take q = iv (List.replicate q (y : Int)) := List.take_of_length_le (by rw [iv_length, List.length_replicate]; omega)
            have ht2 : (iv ((List.range q).map fun (i : Nat) => (i : Int) * z)).take q = iv ((List.range q).map fun (i : Nat) => (i : Int) * z) := List.take_of_length_le (by rw [iv_length, List.length_map, List.length_range]; omega)
            (repeat' first | refine zcd ?_ | intro K' hK | (with_reducible refine zn hK ?_; clear hK) | ((with_reducible apply o_apR (t := 99) apT99 w_none); (case hs => exact ez2 w1 w2); (case hy => exact ez2 w1 w2); (case hsrc => exact src_row (rowOf_same _ _ _ _ _) rfl); (case hr => exact ez2 w1 w2); (case hc => exact rfl); (case hm => omega); (case hli => omega); (case hln => omega); (case hcs => first | (rw [iv_length, List.length_replicate]; omega) | (rw [iv_length, List.length_map, List.length_range]; omega))) | ((with_reducible first | apply zo1 | apply zo2 | apply o_guard rfl | apply x_cond | apply k_e1 rfl | apply k_e2 rfl | apply k_e0 rfl | apply k_e3 rfl | apply k_e4 rfl); (case he => exact ez4 t1 hqze w1 w2); (try case hok => exact ezO); all_goals try (intro hb; (try simp only [hbs, reduceCtorEq] at hb); try exact ezX)) | ((with_reducible apply o_undef rfl); (case hb => exact ez0)))
            refine k_round (nn - (q + 1)) (by omega) ⟨q + 1, .slice (some ⟨n5 + 1, 0, none⟩) (q + 1) (q + 1), .slice (some ⟨n5 + 1 + 1 + 1, 0, none⟩) (q + 1) (q + 1), rfl, by omega, ez0, by omega, (ezB hkp), (ezW rV), .inr ⟨by omega, n5 + 1, n5 + 1 + 1 + 1, by omega, by omega, by omega, by omega, by omega, rfl, rfl, ?_, ?_⟩⟩
            · rw [hrep, iv_app1]
              (repeat rw [rowOf_ne _ _ (by omega)])
              rw [rowOf_same]
              exact ez1 ht1
            · rw [hran, iv_app1, rowOf_same]
              exact ez1 ht2
        · obtain rfl : q = nn := by omega
          have hO2 : ∃ PA QA, OP = .slice PA q q ∧ OQ = .slice QA q q ∧ RdH h5 n5 PA (iv (List.replicate q (y : Int))) ∧ RdH h5 n5 QA (iv ((List.range q).map fun (i : Nat) => (i : Int) * z)) := by
            rcases hO with ⟨rfl, rfl, rfl⟩ | ⟨hq0, i1, i2, j1, j2, j3, j4, j5, rfl, rfl, q1, q2⟩
            · exact ⟨none, none, rfl, rfl, RdH.nil, RdH.nil⟩
            · exact ⟨_, _, rfl, rfl, RdH.ofRow q1 (by omega), RdH.ofRow q2 (by omega)⟩
          obtain ⟨PA, QA, rfl, rfl, hP, hQ⟩ := hO2
          clear hO
          have ql := rlisted_ev k (d + 6) n h5 n5 hk (some ⟨tid, toff, none⟩) A T L tc gc (r1.more (by omega)) hm hE t ht x.kd (by rw [hx]) a ys hat (by omega) PA QA (List.replicate q (y : Int)) ((List.range q).map fun (i : Nat) => (i : Int) * z) q q q q ((dp - 1 : Nat) : Int) (g (dp - 1)) hP hQ (by simp) (by simp) (by simp) (by simp; omega) (fun j hj => by
              have hjq : j < q := by simpa using hj
              have := hzq j hjq
              simp only [List.getElem_map, List.getElem_range]
              omega) (fun j hj hj2 cl h6 n6 hn6 hk6 => by
              have hjq : j < q := by simpa using hj
              have hjz := hzq j hjq
              simp only [List.getElem_map, List.getElem_range, List.getElem_replicate, Int.toNat_natCast]
              obtain ⟨o, ho'⟩ := Int.eq_ofNat_of_zero_le hjz.1
              rw [ho', Int.toNat_natCast]
              exact ih (by omega) cl h6 n6 (a + o) _ ((r1.keep (Nat.le_refl _) fun b hb => hk6 b (by omega)).more (by omega)) ((r2.keep (Nat.le_refl _) fun b hb => hk6 b (by omega)).more (by omega)) (hat.drop (by omega)) (by rw [List.length_drop]; omega) (by rw [List.length_drop]; omega))
          rw [zip_rep] at ql
          obtain ⟨res, hres⟩ : ∃ res, asV x.kd (listP (g (dp - 1)) ys ((List.range q).map fun (i : Nat) => ((y : Int), (i : Int) * z))) = res := ⟨_, rfl⟩
          rw [hres] at ql ⊢
          have wV := rwOf_row rV
          cases res with
          | error e =>
            have ql : SQ k (d + 7) n 80 [.slice (some ⟨tid, toff, none⟩) T.length tc, .slice A L.length gc, .int .u64 a, .int .i64 t, .slice PA q q, .slice QA q q, .int .i64 ((dp - 1 : Nat) : Int)] h5 n5 fun v h' n' => v = .tuple ⟨[.agg ⟨vcell 0 0 [] none 0 0 false⟩, .int .i64 e]⟩ ∧ e ≠ 0 ∧ h5 = h' ∧ n5 = n' := ql.mono fun _ _ _ hp => ⟨hp.1, hp.2.1, hp.2.2.1.symm, hp.2.2.2.symm⟩
            (repeat' first | refine zcd ?_ | intro K' hK | (with_reducible refine zn hK ?_; clear hK) | ((with_reducible apply o_callF (g := 80) w_none); (case ha => exact ez0); (case hs => (exact ql)); (case' hk => rintro _ h' n' ⟨rfl, he0, rfl, rfl⟩)) | ((with_reducible first | apply zo1 | apply zo2 | apply o_guard rfl | apply x_cond | apply k_e1 rfl | apply k_e2 rfl | apply k_e0 rfl | apply k_e3 rfl | apply k_e4 rfl); (case he => exact ez2 hdp1 wV); (try case hok => exact ezO); all_goals try (intro hb; (try simp only [hbs, reduceCtorEq] at hb); try exact ezX)) | ((with_reducible apply o_undef rfl); (case hb => exact ez0)))
            all_goals exact sw_flat rfl rfl ⟨rfl, he0, rfl, rfl⟩
          | ok xv =>
            have ql : SQ k (d + 7) n 80 [.slice (some ⟨tid, toff, none⟩) T.length tc, .slice A L.length gc, .int .u64 a, .int .i64 t, .slice PA q q, .slice QA q q, .int .i64 ((dp - 1 : Nat) : Int)] h5 n5 fun v h' n' => ∃ A1 cc1, v = .tuple ⟨[.agg ⟨vcell xv.kd xv.i xv.s A1 xv.l.length cc1 xv.c⟩, .int .i64 0]⟩ ∧ FH h' n5 n' xv (vcell xv.kd xv.i xv.s A1 xv.l.length cc1 xv.c) ∧ n5 ≤ n' ∧ ∀ b, b < n5 → h'.get b = h5.get b := ql.mono fun v h' n' ⟨cs, e1, hf, a, b⟩ => by
              obtain ⟨A1, cc1, rfl⟩ := hf.cells
              exact ⟨A1, cc1, e1, hf, a, b⟩
            (repeat' first | refine zcd ?_ | intro K' hK | (with_reducible refine zn hK ?_; clear hK) | ((with_reducible apply o_callF (g := 80) w_none); (case ha => exact ez0); (case hs => (exact ql)); (case' hk => rintro _ h' n' ⟨A1, cc1, rfl, hfx, hn6, hk6⟩)) | ((with_reducible first | apply zo1 | apply zo2 | apply o_guard rfl | apply x_cond | apply k_e1 rfl | apply k_e2 rfl | apply k_e0 rfl | apply k_e3 rfl | apply k_e4 rfl); (case he => exact ez1 hdp1); (try case hok => exact ezO); all_goals try (intro hb; (try simp only [hbs, reduceCtorEq] at hb); try exact ezX)) | ((with_reducible apply o_undef rfl); (case hb => exact ez0)))
            have wV := rwOf_row (show rowOf h' n = _ from by rw [rowOf_keep (hk6 _ (by omega))]; exact rV)
            (repeat' first | refine zcd ?_ | intro K' hK | (with_reducible refine zn hK ?_; clear hK) | fail | ((with_reducible first | apply zo1 | apply zo2 | apply o_guard rfl | apply x_cond | apply k_e1 rfl | apply k_e2 rfl | apply k_e0 rfl | apply k_e3 rfl | apply k_e4 rfl); (case he => exact ez1 wV); (try case hok => exact ezO); all_goals try (intro hb; (try simp only [hbs, reduceCtorEq] at hb); try exact ezX)) | ((with_reducible apply o_undef rfl); (case hb => exact ez0)))
            refine sw_fh (hfx.keep (by omega) (Nat.le_refl _) fun b hb1 hb2 => by (repeat rw [Hp.get_ne _ _ (by omega)])) (by omega) (ezC hk6 hkp) fun cs2 h2 n2 a b c => ⟨cs2, rfl, a, b, c⟩
end Go.Proofs.Ytcpkdjikembpnaa.Ce
