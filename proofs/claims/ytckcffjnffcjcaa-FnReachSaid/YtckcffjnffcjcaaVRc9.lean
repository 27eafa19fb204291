/- Texts of this work, of each what the claim leans on: Rch1, RchG, RchH, RchLay, RchS. No conditions. -/
import Derived.Test.YtckcffjnffcjcaaVRc8
import Derived.Laws.IdiomRangeMap
import Derived.Shelf.SlSortCmp.NoneTotal
import Derived.Shelf.SlicesG.Cmp
import Derived.Shelf.Small.Bits
import Derived.Test.YtckcffjnffcjcaaProg
set_option linter.unusedVariables false
set_option linter.unusedSimpArgs false
namespace Go.Proofs.Ytckcffjnffcjcaa
open Go.RowKit Go.Proofs.YtckcffjnffcjcaaW.PrintWords
set_option maxRecDepth 100000 in
set_option maxHeartbeats 16000000 in
theorem specReach_any (n : NetT) (u : (Option Addr × Nat) × (Option Addr × Nat)) (s : SpotT) (F : Int) (w : World) (hr : RdNet 67 w u n) (hf : NetFits n) :
    Calls Try.prog 99 #[.agg #[.slice u.1.1 n.pieces.length u.1.2, .slice u.2.1 n.joints.length u.2.2], .agg #[.int .i64 s.piece, .int .i64 s.at_, .int .i64 s.way], .int .i64 F] w
      fun e w' => ∃ v, e = .returned v ∧ Kd.R kSpot 38 w' w.heap.size (fun _ => True) v (reachV n s F) ∧ Below w.heap.size w w' := by
  have HR := Aside0.mk hr
  have HF := Aside0.mk hf
  clear hr hf
  obtain ⟨⟨A0, c0⟩, ⟨A1, c1⟩⟩ := u
  obtain ⟨ap, aa, aw⟩ := s
  obtain ⟨W0, hW0, hN, hS, fb0, hz0⟩ := box2 w [.slice A0 n.pieces.length c0, .slice A1 n.joints.length c1] [.int .i64 ap, .int .i64 aa, .int .i64 aw] 35 38
  have n0 := hN.c 0 _ rfl; have n1 := hN.c 1 _ rfl
  have s0 := hS.c 0 _ rfl; have s1 := hS.c 1 _ rfl; have s2 := hS.c 2 _ rfl
  have fb := Aside0.mk fb0
  have HN := Aside0.mk hN
  have HS := Aside0.mk hS
  have HW := Aside0.mk hW0
  have HZ := Aside0.mk hz0
  clear hW0 hN hS fb0 hz0
  obtain ⟨ok, hok⟩ : ∃ b, b = spotOkB n ⟨ap, aa, aw⟩ := ⟨_, rfl⟩
  have HOK := Aside0.mk hok.symm
  clear hok
  go_enter Try.func99, Try.ntmps99
  go_wp2_with fail
  rw [← HW.out]
  go_wp2_with fail
  (with_reducible refine Calls.mono (specSpotOk_any n ((A0, c0), (A1, c1)) ⟨ap, aa, aw⟩ _ (HR.out.below fb.out) HF.out) ?_)
  rintro e w1 ⟨rfl, b1⟩
  rw [HOK.out]
  have N1 := Aside0.mk (HN.out.below b1)
  have S1 := Aside0.mk (HS.out.below b1)
  have B1 := Aside0.mk (below_more fb.out b1)
  clear n0 n1 s0 s1 s2 b1
  cases ok with
  | false =>
    have HV := Aside0.mk (reachV_bad (n := n) (s := ⟨ap, aa, aw⟩) (F := F) (by unfold reachB; rw [HOK.out]; rfl))
    go_wp2_with fail
    go_ret
    exact ⟨_, rfl, by rw [HV.out]; exact Kd.R_nil .., B1.out⟩
  | true =>
    go_wp2_with fail
    (with_reducible refine Calls.mono (l1in_any F 0 1000000 _) ?_)
    rintro e w2 ⟨rfl, hw2⟩
    rw [← hw2]
    clear hw2
    obtain ⟨fi, hfi⟩ : ∃ b, b = inB F 0 1000000 := ⟨_, rfl⟩
    rw [← hfi]
    have HFI := Aside0.mk hfi.symm
    clear hfi
    cases fi with
    | false =>
      have HV := Aside0.mk (reachV_bad (n := n) (s := ⟨ap, aa, aw⟩) (F := F) (by unfold reachB; rw [HOK.out, HFI.out]; rfl))
      go_wp2_with fail
      go_ret
      exact ⟨_, rfl, by rw [HV.out]; exact Kd.R_nil .., B1.out⟩
    | true =>
      have hB : reachB n ⟨ap, aa, aw⟩ F = true := by unfold reachB; rw [HOK.out, HFI.out]; rfl
      obtain ⟨hng, hsb, hF0, hF1⟩ := reachB_is hB
      have HB := Aside0.mk hB
      have HG := Aside0.mk (Good.of hng)
      have HSP := Aside0.mk hsb
      have hxb := spotB_iff.1 hsb
      have hlen := HG.out.len hxb.1 hxb.2.1
      have hrm := roomS_bd HG.out hsb
      simp only at hxb hlen
      have HXB := Aside0.mk hxb
      have HLN := Aside0.mk hlen
      obtain ⟨rm, hrm1⟩ : ∃ r, r = roomS n ⟨ap, aa, aw⟩ := ⟨_, rfl⟩
      rw [← hrm1] at hrm
      have HRM := Aside0.mk hrm1
      clear hB hng hsb hlen hrm1
      have n0 := N1.out.c 0 _ rfl; have n1 := N1.out.c 1 _ rfl
      have s0 := S1.out.c 0 _ rfl; have s1 := S1.out.c 1 _ rfl; have s2 := S1.out.c 2 _ rfl
      have sf1 := S1.out.f 1
      go_wp2_with fail
      (with_reducible refine Calls.mono (l3room_any n ((A0, c0), (A1, c1)) ⟨ap, aa, aw⟩ _ (HR.out.below B1.out) (by have := HXB.out; simp only; omega) (by have := HXB.out; simp only; omega) (by have := HXB.out; simp only; omega) (by have := HXB.out; simp only; omega) (by have := HLN.out; simp only; omega)) ?_)
      rintro e w2 ⟨rfl, b2⟩
      rw [← HRM.out]
      have N2 := Aside0.mk (N1.out.below b2)
      have S2 := Aside0.mk (S1.out.below b2)
      have B2 := Aside0.mk (below_more B1.out b2)
      clear n0 n1 s0 s1 s2 sf1 b2
      by_cases hle : F ≤ rm
      · have HV := Aside0.mk (reachV_near HB.out (show F ≤ roomS n ⟨ap, aa, aw⟩ by rw [← HRM.out]; exact hle))
        obtain ⟨mv, hmv⟩ : ∃ m, m = F * aw := ⟨_, rfl⟩
        have hmb : -1000000 ≤ mv ∧ mv ≤ 1000000 := by
          rcases hxb.2.2.1 with h | h <;> (rw [h] at hmv; omega)
        have hab : 0 ≤ aa ∧ aa ≤ 10000000 := by have h1 := HLN.out; have h2 := HXB.out; omega
        have hw1 : IntKind.i64.wrap (F * aw) = mv := by rw [← hmv]; exact wrap64 (by omega) (by omega)
        obtain ⟨na, hna⟩ : ∃ m, m = aa + mv := ⟨_, rfl⟩
        have hw2 : IntKind.i64.wrap (aa + mv) = na := by rw [hna]; exact wrap64 (by omega) (by omega)
        have HMV : Aside0 (moveS ⟨ap, aa, aw⟩ F = ⟨ap, na, aw⟩) := ⟨by unfold moveS; rw [hna, hmv]⟩
        clear hmv hna hmb hab hxb
        have s0 := S2.out.c 0 _ rfl; have s1 := S2.out.c 1 _ rfl; have s2 := S2.out.c 2 _ rfl
        have sf1 := S2.out.f 1
        have sl := S2.out.lt
        go_wp2_with fail
        go_ret
        exact ⟨_, rfl, by rw [HV.out, HMV.out]; exact R_spot1 _ _ (by simp [World.setCell]) (by simp [World.setCell]; have := B2.out.size; omega), below_alloc (below_set B2.out (by omega)) _⟩
      · have HVG := Aside0.mk (reachV_go HB.out (show ¬ F ≤ roomS n ⟨ap, aa, aw⟩ by rw [← HRM.out]; exact hle))
        have hge : ¬ rm ≥ F := by omega
        have RG0 := Aside0.mk (RG.start HSP.out (show ¬ F ≤ roomS n ⟨ap, aa, aw⟩ by rw [← HRM.out]; exact hle))
        clear hle hxb
        have s0 := S2.out.c 0 _ rfl; have s1 := S2.out.c 1 _ rfl; have s2 := S2.out.c 2 _ rfl
        have HZ2 := Aside0.mk (show w.heap.size + 2 ≤ w2.heap.size by have h1 := HZ.out; have h2 := fb.out.size; have h3 := B1.out.size; have h4 := S2.out.lt; omega)
        have L0 := Aside0.mk (R_one172 w2 (⟨ap, aa, aw⟩, 0) (base := w.heap.size + 2) rfl HZ2.out)
        have N3 := Aside0.mk (N2.out.alloc (.cells #[.int .i64 ap, .int .i64 aa, .int .i64 aw, .int .i64 0, .slice none 0 0] 172))
        have B3 := Aside0.mk (below_alloc B2.out (.cells #[.int .i64 ap, .int .i64 aa, .int .i64 aw, .int .i64 0, .slice none 0 0] 172))
        go_wp2_with fail
        go_loopw [7, 8, 9] (fun v7 v8 v9 wr => ∃ (ov : Nat) (out : List SpotT) (line : List ItemT), v9 = .int .i64 (ov : Int) ∧ ov ≤ 1000 ∧ Aside0 (Bx wr w.heap.size [.slice A0 n.pieces.length c0, .slice A1 n.joints.length c1]) ∧ Aside0 (kSpot.R 38 wr (w.heap.size + 2) (fun _ => True) v7 out) ∧ Aside0 (kHdr.R 172 wr (w.heap.size + 2) (fun _ => True) v8 (line.map hR)) ∧ Aside0 (RG n ⟨ap, aa, aw⟩ F (1001 - ov) out line) ∧ Aside0 (Below w.heap.size w wr)) (fun _ _ v9 _ => 1001 - (intOf v9).toNat)
        case atStart => exact ⟨0, [], [_], rfl, by omega, N3, ⟨Kd.R_nil ..⟩, L0, RG0, B3⟩
        case round =>
          obtain ⟨ov, out, line, rfl, hov, NN, OO, LL, GG, BB⟩ := hrel
          obtain ⟨LA, lc, eL⟩ := Kd.R_slice LL.out
          rw [List.length_map] at eL
          subst eL
          obtain ⟨OA, oc, eO⟩ := Kd.R_slice OO.out
          subst eO
          by_cases hne : line = []
          · have HV : Aside0 (reachV n ⟨ap, aa, aw⟩ F = sortS out) := ⟨by rw [HVG.out]; have h := GG.out; rw [hne] at h; exact h.out⟩
            have HND := Aside0.mk GG.out.nd
            have hln : ¬ 0 < line.length := by rw [hne]; simp
            clear hne
            clear hov
            go_wp2_with fail
            go_loopw [25] (fun v25 wr => ∃ (i : Nat) (l : List SpotT), v25 = .int .i64 (i : Int) ∧ 1 ≤ i ∧ i ≤ out.length + 1 ∧ Aside0 (kSpot.R 38 wr (w.heap.size + 2) (fun _ => True) (.slice OA out.length oc) l) ∧ Aside0 (SO out i l) ∧ Aside0 (Below w.heap.size w wr)) (fun v25 _ => out.length + 1 - (intOf v25).toNat)
            case atStart => exact ⟨1, out, rfl, by omega, by omega, OO, ⟨SO.start out⟩, BB⟩
            case round =>
              obtain ⟨i, l, rfl, hi1, hi2, RO, HSO, HB4⟩ := hrel
              have hol := GG.out.ol.1
              by_cases hlt : i < out.length
              · have hlt' : (i : Int) < (out.length : Int) := by omega
                have hll : l.length = out.length := HSO.out.1.length_eq
                obtain ⟨gO, cO, eO, hgO1, _, _⟩ := Kd.R_form RO.out (by omega)
                rw [hll] at eO
                injection eO with eO1 _ eO2
                subst eO1
                subst eO2
                have HGO := Aside0.mk hgO1
                have SI0 := Aside0.mk (HSO.out.into (show i < l.length by omega))
                clear hll hgO1
                go_wp2_with fail
                go_loopw [26] (fun v26 wr => ∃ (k : Nat) (l : List SpotT), v26 = .int .i64 (k : Int) ∧ k ≤ i ∧ Aside0 (kSpot.R 38 wr (w.heap.size + 2) (fun _ => True) (.slice (some ⟨gO, 0, none⟩) out.length oc) l) ∧ Aside0 (SI out i k l) ∧ Aside0 (Below w.heap.size w wr)) (fun v26 _ => (intOf v26).toNat)
                case atStart => exact ⟨i, l, rfl, Nat.le_refl _, RO, SI0, HB4⟩
                case round =>
                  obtain ⟨k, l, rfl, hk, RK, HSI, HBK⟩ := hrel
                  have hll : l.length = out.length := HSI.out.p.length_eq
                  obtain ⟨WK, hWK⟩ : ∃ WK : World, WK = wr := ⟨_, rfl⟩
                  subst hWK
                  by_cases hk0 : k = 0
                  · have HST := Aside0.mk (HSI.out.stop HND.out (.inl hk0))
                    have hkn : ¬ 0 < k := by omega
                    have hkd : decide (0 < k) = false := by simpa using hk0
                    clear hk0
                    go_wp2_with fail
                    go_quiet (fail)
                    all_goals
                      go_wp2_with fail
                      go_roundw
                      case rel => exact ⟨i + 1, l, by go_num, by omega, by omega, ⟨Kd.R_below RK.out (below_drewN' (Below.refl _ _) _)⟩, HST, ⟨below_more HBK.out (below_drewN' (Below.refl _ _) _)⟩⟩
                      case measure => simp [intOf]; omega
                  · obtain ⟨k', hkk⟩ : ∃ k', k = k' + 1 := ⟨k - 1, by omega⟩
                    have hkp : 0 < k := by omega
                    have hkd : decide (0 < k) = true := by simpa using hkp
                    have hk1 : (0 : Int) ≤ (k : Int) := by omega
                    have hk2 : (k : Int) < (out.length : Int) := by omega
                    have hk3 : (0 : Int) ≤ (k' : Int) := by omega
                    have hk4 : (k' : Int) < (out.length : Int) := by omega
                    have hwk : IntKind.i64.wrap ((k : Int) - 1) = (k' : Int) := by rw [wrap64 (by omega) (by omega)]; omega
                    obtain ⟨ad0, ea0, x0, x1, x2⟩ := at_Spot (Kd.R_reads' RK.out).2.2 k (by omega)
                    obtain ⟨ad1, ea1, y0, y1, y2⟩ := at_Spot (Kd.R_reads' RK.out).2.2 k' (by omega)
                    obtain rfl : (⟨gO, 0, none⟩ : Addr) = ad0 := by injection ea0
                    obtain rfl : (⟨gO, 0, none⟩ : Addr) = ad1 := by injection ea1
                    obtain ⟨⟨xp, xa, xw⟩, hX⟩ : ∃ X, X = l.getD k default := ⟨_, rfl⟩
                    obtain ⟨⟨yp, ya, yw⟩, hY⟩ : ∃ X, X = l.getD k' default := ⟨_, rfl⟩
                    rw [← hX] at x0 x1 x2
                    rw [← hY] at y0 y1 y2
                    rw [add_lit] at x0 x1 x2 y0 y1 y2
                    simp only at x0 x1 x2 y0 y1 y2
                    have HX := Aside0.mk hX
                    have HY := Aside0.mk hY
                    have HKK := Aside0.mk hkk
                    have X0 := Aside0.mk x0; have X1 := Aside0.mk x1; have X2 := Aside0.mk x2
                    have Y0 := Aside0.mk y0; have Y1 := Aside0.mk y1; have Y2 := Aside0.mk y2
                    obtain ⟨b, hb⟩ : ∃ b, b = spotLt ⟨xp, xa, xw⟩ ⟨yp, ya, yw⟩ := ⟨_, rfl⟩
                    have HBV := Aside0.mk hb
                    clear ea0 ea1 hX hY hkk hb hk0 x0 x1 x2 y0 y1 y2
                    have HSt : Aside0 (∀ W, Below WK.heap.size WK W → (Below WK.heap.size WK W ∧ W.cell? ⟨gO, k * 3, none⟩ = some (.int .i64 xp) ∧ W.cell? ⟨gO, k * 3 + 1, none⟩ = some (.int .i64 xa) ∧ W.cell? ⟨gO, k * 3 + 2, none⟩ = some (.int .i64 xw) ∧ W.cell? ⟨gO, k' * 3, none⟩ = some (.int .i64 yp) ∧ W.cell? ⟨gO, k' * 3 + 1, none⟩ = some (.int .i64 ya) ∧ W.cell? ⟨gO, k' * 3 + 2, none⟩ = some (.int .i64 yw))) := ⟨fun W hb => ⟨hb, pw_cell_below hb X0.out, pw_cell_below hb X1.out, pw_cell_below hb X2.out, pw_cell_below hb Y0.out, pw_cell_below hb Y1.out, pw_cell_below hb Y2.out⟩⟩
                    go_wp2_with fail
                    · go_region_held3 (fun W => Below WK.heap.size WK W ∧ W.cell? ⟨gO, k * 3, none⟩ = some (.int .i64 xp) ∧ W.cell? ⟨gO, k * 3 + 1, none⟩ = some (.int .i64 xa) ∧ W.cell? ⟨gO, k * 3 + 2, none⟩ = some (.int .i64 xw) ∧ W.cell? ⟨gO, k' * 3, none⟩ = some (.int .i64 yp) ∧ W.cell? ⟨gO, k' * 3 + 1, none⟩ = some (.int .i64 ya) ∧ W.cell? ⟨gO, k' * 3 + 2, none⟩ = some (.int .i64 yw))
                        (first | assumption | (with_reducible exact HSt.out _ (by assumption)) | (with_reducible exact HSt.out _ (Below.drew (Below.refl _ _))))
                        (first
                          | (go_at_call 161; go_split_ands; (with_reducible refine Calls.mono (l4spot_any ⟨xp, xa, xw⟩ ⟨yp, ya, yw⟩ _) ?_); rintro e tw0 ⟨rfl, b3⟩; rw [← HBV.out]; have tq0 : Below WK.heap.size WK tw0 := below_more (by assumption) b3; have tQ0 := Aside0.mk tq0; clear b3))
                      all_goals
                        have B5 := tQ0
                        cases b with
                        | false =>
                          have HST := Aside0.mk (HSI.out.stop HND.out (.inr (by rw [show k - 1 = k' by have := HKK.out; omega, ← HX.out, ← HY.out]; exact HBV.out.symm)))
                          go_wp2_with fail
                          go_roundw
                          case rel => exact ⟨i + 1, l, by go_num, by omega, by omega, ⟨Kd.R_below RK.out B5.out⟩, HST, ⟨below_more HBK.out B5.out⟩⟩
                          case measure => simp [intOf]; omega
                        | true =>
                          have hkb : k - 1 = k' := by have := HKK.out; omega
                          have HSW : Aside0 (SI out i k' ((l.set k ⟨yp, ya, yw⟩).set k' ⟨xp, xa, xw⟩)) := ⟨by
                            have h := HSI.out.swap HND.out (show 0 < k by omega) (by rw [hkb, ← HX.out, ← HY.out]; exact HBV.out.symm)
                            unfold swapL at h
                            rw [hkb, ← HX.out, ← HY.out] at h
                            exact h⟩
                          obtain ⟨W5, hW5⟩ : ∃ W5, W5 = tw0 := ⟨_, rfl⟩
                          subst hW5
                          have x0 := pw_cell_below B5.out X0.out; have x1 := pw_cell_below B5.out X1.out; have x2 := pw_cell_below B5.out X2.out
                          have y0 := pw_cell_below B5.out Y0.out; have y1 := pw_cell_below B5.out Y1.out; have y2 := pw_cell_below B5.out Y2.out
                          have R5 := Aside0.mk (Kd.R_below RK.out B5.out)
                          have hgl : gO < W5.heap.size := Kd.R_lt R5.out gO rfl
                          have HGL := Aside0.mk hgl
                          have E8 := Aside0.mk (Kd.R_alloc (Kd.R_alloc R5.out (.cells #[.int .i64 xp, .int .i64 xa, .int .i64 xw] 38)) (.cells #[.int .i64 yp, .int .i64 ya, .int .i64 yw] 38))
                          have X8 := Aside0.mk ((Bx.new W5 [.int .i64 xp, .int .i64 xa, .int .i64 xw] 38).alloc (.cells #[.int .i64 yp, .int .i64 ya, .int .i64 yw] 38))
                          have B8 := Aside0.mk (below_alloc (below_alloc (below_more HBK.out B5.out) (.cells #[.int .i64 xp, .int .i64 xa, .int .i64 xw] 38)) (.cells #[.int .i64 yp, .int .i64 ya, .int .i64 yw] 38))
                          go_wp2_with (first
                            | ((with_reducible refine gate_store (t := 38) (p := 218) rfl ?_); refine store_whole kSpot (w.heap.size + 2) rfl rfl 38 _ _ rfl 38 k l ⟨yp, ya, yw⟩ _ default (fun _ => True) (fun k => k ≠ gO) rfl (by first | rfl | (simp [kSpot, Kd.iso, Kd.pair, Kd.int, Kd.string, Kd.scalar]; done)) rfl (by kernel_rfl) E8.out (by omega) (kSpot_mkM _ _ _ ⟨yp, ya, yw⟩) (fun _ hk => ⟨trivial, hk⟩) (Below.refl _ _) ?_; intro w9 hR9 hB9 hG9; have E9 := Aside0.mk hR9; have G9 := Aside0.mk hG9; have B9 := Aside0.mk hB9; have X9 := Aside0.mk (X8.out.grownP hG9 (fun he => by injection he with he; omega)); clear hR9 hB9 hG9 x0 x1 x2 y0 y1 y2; have x0 := X9.out.c 0 _ rfl; have x1 := X9.out.c 1 _ rfl; have x2 := X9.out.c 2 _ rfl)
                            | ((with_reducible refine gate_store (t := 38) (p := 223) rfl ?_); refine store_whole kSpot (w.heap.size + 2) rfl rfl 38 _ _ rfl 38 k' (l.set k ⟨yp, ya, yw⟩) ⟨xp, xa, xw⟩ _ default (fun _ => True) (fun k => k ≠ gO) rfl (by first | rfl | (simp [kSpot, Kd.iso, Kd.pair, Kd.int, Kd.string, Kd.scalar]; done)) rfl (by kernel_rfl) E9.out (by omega) (kSpot_mkM _ _ _ ⟨xp, xa, xw⟩) (fun _ hk => ⟨trivial, hk⟩) (Below.refl _ _) ?_; intro w10 hR10 hB10 hG10; have E10 := Aside0.mk hR10; have B10 := Aside0.mk hB10; clear hR10 hB10 hG10))
                          go_roundw
                          case rel => exact ⟨k', _, rfl, by omega, E10, HSW, ⟨below_low (below_low B8.out B9.out (by omega)) B10.out (by omega)⟩⟩
                          case measure => simp [intOf]; omega
              · have HL := Aside0.mk (HSO.out.all HND.out (show l.length ≤ i by have := HSO.out.1.length_eq; omega))
                have hge : ¬ (i : Int) < (out.length : Int) := by omega
                go_wp2_with fail
                go_ret
                exact ⟨_, rfl, by rw [HV.out, ← HL.out]; exact Kd.R_lower RO.out (by omega), HB4.out⟩
          · have hlp : 0 < line.length := List.length_pos_iff.2 hne
            have hlp' : (0 : Int) < (line.length : Int) := by omega
            have hl1 := GG.out.ol.2
            have ho1 := GG.out.ol.1
            have HNE := Aside0.mk hne
            obtain ⟨WO, hWO⟩ : ∃ WO : World, WO = wr := ⟨_, rfl⟩
            subst hWO
            have RX0 := Aside0.mk (show RX w [.slice A0 n.pieces.length c0, .slice A1 n.joints.length c1] WO.heap.size w.heap.size WO (.slice OA out.length oc) (.slice none 0 0) (.slice LA line.length lc) (lineRS n F out line 0).1 (lineRS n F out line 0).2 line from
              ⟨NN.out, Kd.R_mono (Kd.R_bound OO.out) (fun k hk => by have := hk.2.1; omega), Kd.R_nil .., Kd.R_mono (Kd.R_bound LL.out) (fun k hk => hk.2.2.1), BB.out, by have h1 := BB.out.size; obtain ⟨gL, cL, eL, hgL1, hgL2, _⟩ := Kd.R_form LL.out (by simpa using hlp); omega, Nat.le_refl _⟩)
            clear hne
            go_wp2_with fail
            go_loopw [7, 10, 63] (fun v7 v10 v63 wr => ∃ (a : Nat), v63 = .int .i64 (a : Int) ∧ a ≤ line.length ∧ Aside0 (RX w [.slice A0 n.pieces.length c0, .slice A1 n.joints.length c1] WO.heap.size w.heap.size wr v7 v10 (.slice LA line.length lc) (lineRS n F out line a).1 (lineRS n F out line a).2 line) ∧ Aside0 ((lineRS n F out line a).1.length ≤ out.length + 2 * a ∧ (lineRS n F out line a).2.length ≤ 2 * a)) (fun _ _ v63 _ => line.length - (intOf v63).toNat)
            case atStart => exact ⟨0, rfl, Nat.zero_le _, RX0, ⟨by simp [lineRS], by simp [lineRS]⟩⟩
            case round =>
              obtain ⟨a, rfl, ha, RX2, HLE⟩ := hrel
              by_cases hlt : a < line.length
              · obtain ⟨WP, hWP⟩ : ∃ WP : World, WP = wr := ⟨_, rfl⟩
                subst hWP
                obtain ⟨c, hc⟩ : ∃ c, c = line.getD a default := ⟨_, rfl⟩
                have hcm : c ∈ line := by rw [hc]; exact getD_mem line a hlt
                obtain ⟨hsb, hf0, hf1⟩ := GG.out.it c hcm
                obtain ⟨ad, eL1, x0, x1, x2, x3, x4⟩ := at_Item (Kd.R_reads' RX2.out.l).2.2 a (by rw [List.length_map]; exact hlt)
                subst eL1
                rw [← hc] at x0 x1 x2 x3
                obtain ⟨⟨xp, xa, xw⟩, xf⟩ := c
                simp only at x0 x1 x2 x3 hsb hf0 hf1
                have HSB := Aside0.mk hsb
                have HF0 := Aside0.mk hf0
                have HF1 := Aside0.mk hf1
                have HCE := Aside0.mk hc
                have ha0 : (0 : Int) ≤ (a : Int) := by omega
                have ha1 : (a : Int) < (line.length : Int) := by omega
                obtain ⟨⟨hp, hs2⟩, hh⟩ : ∃ e, e = headE ⟨xp, xa, xw⟩ := ⟨_, rfl⟩
                have HHV : Aside0 ((Value.agg #[.int .i64 (headE ⟨xp, xa, xw⟩).piece, .int .i64 (headE ⟨xp, xa, xw⟩).side]) = (Value.agg #[.int .i64 hp, .int .i64 hs2])) := ⟨by rw [← hh]⟩
                have hee : endB n ⟨hp, hs2⟩ = true := by rw [hh]; exact headE_ok hsb
                obtain ⟨ia, qa, hata⟩ := HG.out.at_ hee
                have HAT := Aside0.mk hata
                have HHE := Aside0.mk hh
                clear hc hcm hsb hf0 hf1 hh hee hata
                obtain ⟨W8, hW8⟩ : ∃ W8, W8 = WP.alloc (.cells #[.int .i64 xp, .int .i64 xa, .int .i64 xw, .int .i64 xf, .slice none 0 0] 172) := ⟨_, rfl⟩
                have C8 : Aside0 (Bx W8 WP.heap.size [.int .i64 xp, .int .i64 xa, .int .i64 xw, .int .i64 xf, .slice none 0 0]) := ⟨by rw [hW8]; exact Bx.new WP _ 172⟩
                have Q8 : Aside0 (Below WP.heap.size WP W8) := ⟨by rw [hW8]; exact below_alloc (Below.refl _ _) _⟩
                have F8 := Aside0.mk (RX2.out.box.below Q8.out)
                have HW8 := Aside0.mk hW8
                clear hW8
                go_wp2_with fail
                rw [← HW8.out]
                clear x0 x1 x2 x3 x4
                have HS8 : Aside0 (∀ W, Below W8.heap.size W8 W → (Below W8.heap.size W8 W ∧ W.cell? ⟨w.heap.size, 0, none⟩ = some (.slice A0 n.pieces.length c0) ∧ W.cell? ⟨w.heap.size, 1, none⟩ = some (.slice A1 n.joints.length c1) ∧ W.cell? ⟨WP.heap.size, 0, none⟩ = some (.int .i64 xp) ∧ W.cell? ⟨WP.heap.size, 1, none⟩ = some (.int .i64 xa) ∧ W.cell? ⟨WP.heap.size, 2, none⟩ = some (.int .i64 xw))) := ⟨fun W hb => ⟨hb, (F8.out.net.below hb).c 0 _ rfl, (F8.out.net.below hb).c 1 _ rfl, (C8.out.below hb).c 0 _ rfl, (C8.out.below hb).c 1 _ rfl, (C8.out.below hb).c 2 _ rfl⟩⟩
                go_cut [13, 14] (fun s11 s12 W => s11 = .int .i64 (ia : Int) ∧ s12 = .int .i64 (qa : Int) ∧ Aside0 (Below W8.heap.size W8 W))
                case first =>
                  go_region_held3 (fun W => Below W8.heap.size W8 W ∧ W.cell? ⟨w.heap.size, 0, none⟩ = some (.slice A0 n.pieces.length c0) ∧ W.cell? ⟨w.heap.size, 1, none⟩ = some (.slice A1 n.joints.length c1) ∧ W.cell? ⟨WP.heap.size, 0, none⟩ = some (.int .i64 xp) ∧ W.cell? ⟨WP.heap.size, 1, none⟩ = some (.int .i64 xa) ∧ W.cell? ⟨WP.heap.size, 2, none⟩ = some (.int .i64 xw))
                    (first | (with_reducible assumption) | (with_reducible exact HS8.out _ (by with_reducible assumption)) | (with_reducible exact HS8.out _ (Below.drew (Below.refl _ _))))
                    (first
                      | (go_at_call 157; go_split_ands; (with_reducible refine Calls.mono (l3head_any ⟨xp, xa, xw⟩ _) ?_); rintro e w9 ⟨rfl, b9⟩; rw [HHV.out]; have q9 : Below W8.heap.size W8 w9 := below_more (by assumption) b9; clear b9)
                      | (go_at_call 133; go_split_ands; (with_reducible refine Calls.mono (l1at_any n ((A0, c0), (A1, c1)) ⟨hp, hs2⟩ _ (HR.out.below (below_more F8.out.b0 (by assumption)))) ?_); rintro e w10 ⟨rfl, b10⟩; rw [HAT.out.eq]; have q10 : Below W8.heap.size W8 w10 := below_more (by assumption) b10; have Q10 := Aside0.mk q10; clear b10))
                  all_goals
                    try go_wp2_with fail
                    go_meet
                    case rel => exact ⟨rfl, rfl, Q10⟩
                case rest =>
                  obtain ⟨rfl, rfl, Q10⟩ := hcut
                  obtain ⟨W10, hW10⟩ : ∃ W10, W10 = wc := ⟨_, rfl⟩
                  subst hW10
                  have Q10' := Aside0.mk (below_more Q8.out Q10.out)
                  have F10 := Aside0.mk (F8.out.below Q10.out)
                  have C10 := Aside0.mk (C8.out.below Q10.out)
                  have hia := HAT.out.hi
                  obtain ⟨hk1', hk2', hk3', _⟩ := HG.out.kindAt hia
                  have hqa := HAT.out.hq
                  obtain ⟨adj, A2, c2, ej, j0, j1, j2, m0, g0⟩ := at_Joint (HR.out.below F10.out.b0).2.1 ia hia
                  simp only at ej
                  subst ej
                  obtain ⟨j, hj⟩ : ∃ j, j = n.joints.getD ia default := ⟨_, rfl⟩
                  rw [← hj] at j0 j1 j2 m0 g0 hk1' hk2' hk3' hqa
                  have HJ := Aside0.mk hj
                  have HCJ := Aside0.mk g0
                  clear hj m0 g0
                  have hi0 : (0 : Int) ≤ (ia : Int) := by omega
                  have hi1 : (ia : Int) < (n.joints.length : Int) := by omega
                  have n1 := F10.out.net.c 1 _ rfl
                  go_wp2_with fail
                  (with_reducible refine Calls.mono (l1across_any j A2 c2 qa _ HCJ.out hk3' hqa hk2') ?_)
                  rintro e w11 ⟨v11, rfl, r11, b11⟩
                  obtain ⟨E, hE⟩ : ∃ E, E = acrossJ j qa := ⟨_, rfl⟩
                  rw [← hE] at r11
                  have HE := Aside0.mk (show E = acrossE n (headE (⟨xp, xa, xw⟩, xf).1) by rw [hE]; show _ = acrossE n (headE ⟨xp, xa, xw⟩); rw [← HHE.out]; unfold acrossE; rw [HAT.out.j, HAT.out.k, HJ.out])
                  have HE2 := Aside0.mk (show E.length ≤ 2 by rw [hE]; exact acrossJ_few j qa)
                  obtain ⟨AE, cE, eE⟩ := Kd.R_slice r11
                  subst eE
                  have hmE := HE2.out
                  have Q11 := Aside0.mk (below_more Q10'.out b11)
                  have RY0 := Aside0.mk (show RY w [.slice A0 n.pieces.length c0, .slice (some adj) n.joints.length c1] WO.heap.size WP.heap.size [.int .i64 xp, .int .i64 xa, .int .i64 xw, .int .i64 xf, .slice none 0 0] WP.heap.size (.slice AE E.length cE) E w11 _ _ (.slice (some ad) line.length lc) (endRS n F (lineRS n F out line a) (⟨xp, xa, xw⟩, xf) 0).1 (endRS n F (lineRS n F out line a) (⟨xp, xa, xw⟩, xf) 0).2 line from ⟨F10.out.below b11, C10.out.below b11, Kd.R_lower r11 (show WP.heap.size ≤ W10.heap.size from Q10'.out.size)⟩)
                  clear b11 r11 hE n1 j0 j1 j2
                  go_wp2_with fail
                  go_loopw [7, 10, 83] (fun v7 v10 v83 wr => ∃ (q : Nat), v83 = .int .i64 (q : Int) ∧ q ≤ E.length ∧ Aside0 (RY w [.slice A0 n.pieces.length c0, .slice (some adj) n.joints.length c1] WO.heap.size WP.heap.size [.int .i64 xp, .int .i64 xa, .int .i64 xw, .int .i64 xf, .slice none 0 0] WP.heap.size (.slice AE E.length cE) E wr v7 v10 (.slice (some ad) line.length lc) (endRS n F (lineRS n F out line a) (⟨xp, xa, xw⟩, xf) q).1 (endRS n F (lineRS n F out line a) (⟨xp, xa, xw⟩, xf) q).2 line)) (fun _ _ v83 _ => E.length - (intOf v83).toNat)
                  case atStart => exact ⟨0, rfl, Nat.zero_le _, RY0⟩
                  case round =>
                    obtain ⟨q, rfl, hq, RY3⟩ := hrel
                    by_cases hlt3 : q < E.length
                    · obtain ⟨WR, hWR⟩ : ∃ WR : World, WR = wr := ⟨_, rfl⟩
                      subst hWR
                      obtain ⟨st, hst⟩ : ∃ st, st = endRS n F (lineRS n F out line a) (⟨xp, xa, xw⟩, xf) q := ⟨_, rfl⟩
                      have HSN := Aside0.mk (endRS_next (n := n) (F := F) (st := lineRS n F out line a) (c := (⟨xp, xa, xw⟩, xf)) HE.out hlt3)
                      rw [← hst] at RY3 HSN
                      have HSL := Aside0.mk (show st.1.length ≤ 3000 ∧ st.2.length ≤ 3000 by have h1 := endRS_len n F (lineRS n F out line a) (⟨xp, xa, xw⟩, xf) q; rw [← hst] at h1; have h2 := HLE.out; have h3 := HE2.out; omega)
                      have HST := Aside0.mk hst
                      clear hst
                      obtain ⟨OA3, oc3, eO3⟩ := Kd.R_slice RY3.out.rx.o
                      obtain ⟨NA3, nc3, eN3⟩ := Kd.R_slice RY3.out.rx.nx
                      rw [List.length_map] at eN3
                      subst eO3
                      subst eN3
                      obtain ⟨adE, eE1, z0, z1⟩ := at_End (Kd.R_reads' RY3.out.e).2.2 q hlt3
                      subst eE1
                      have hem := getD_mem E q hlt3
                      rw [HE.out] at hem
                      have hee := (HG.out.across (headE_ok HSB.out) hem).1
                      rw [← HE.out] at hee
                      obtain ⟨⟨ep, es⟩, he⟩ : ∃ e, e = E.getD q default := ⟨_, rfl⟩
                      rw [← he] at z0 z1 hee
                      rw [← he] at HSN
                      have HEE := Aside0.mk hee
                      have hb1 := endB_iff.1 hee
                      simp only at hb1
                      have HEB := Aside0.mk hb1
                      have hxb := spotB_iff.1 HSB.out
                      have hlen := HG.out.len hxb.1 hxb.2.1
                      have hrm := roomS_bd HG.out HSB.out
                      simp only at hxb hlen
                      have HXB := Aside0.mk hxb
                      have HLN2 := Aside0.mk hlen
                      have hf1 := HF1.out
                      have hf0 := HF0.out
                      obtain ⟨rmx, hrm1⟩ : ∃ r, r = roomS n ⟨xp, xa, xw⟩ := ⟨_, rfl⟩
                      rw [← hrm1] at hrm hf1
                      rw [← hrm1] at HSN
                      have HRMX := Aside0.mk hrm1
                      obtain ⟨⟨np, na, nw⟩, hen⟩ : ∃ e, e = enterS n ⟨ep, es⟩ := ⟨_, rfl⟩
                      have HEV : Aside0 ((Value.agg #[.int .i64 (enterS n ⟨ep, es⟩).piece, .int .i64 (enterS n ⟨ep, es⟩).at_, .int .i64 (enterS n ⟨ep, es⟩).way]) = (Value.agg #[.int .i64 np, .int .i64 na, .int .i64 nw])) := ⟨by rw [← hen]⟩
                      have hns : spotB n ⟨np, na, nw⟩ = true := by rw [hen]; exact enterS_ok HG.out hee
                      rw [← hen] at HSN
                      have HNS := Aside0.mk hns
                      obtain ⟨nf, hnf⟩ : ∃ f, f = xf + rmx := ⟨_, rfl⟩
                      rw [← hnf] at HSN
                      have hwf : IntKind.i64.wrap (xf + rmx) = nf := by rw [hnf]; have h0 := HF0.out; have h1 := HB.out; exact wrap64 (by omega) (by omega)
                      have HNF := Aside0.mk (show 0 ≤ nf ∧ nf < F by omega)
                      have hq0 : (0 : Int) ≤ (q : Int) := by omega
                      have hq1 : (q : Int) < (E.length : Int) := by omega
                      clear hem he hee hb1 hxb hlen hrm hrm1 hen hnf hns hf0 hf1
                      obtain ⟨W12, hW12⟩ : ∃ W12, W12 = WR.alloc (.cells #[.int .i64 ep, .int .i64 es] 67) := ⟨_, rfl⟩
                      have Q12 : Aside0 (Below WR.heap.size WR W12) := ⟨by rw [hW12]; exact below_alloc (Below.refl _ _) _⟩
                      have E12 : Aside0 (Bx W12 WR.heap.size [.int .i64 ep, .int .i64 es]) := ⟨by rw [hW12]; exact Bx.new WR _ 67⟩
                      have F12 := Aside0.mk (RY3.out.below Q12.out)
                      have HW12 := Aside0.mk hW12
                      clear hW12
                      go_wp2_with fail
                      rw [← HW12.out]
                      clear z0 z1
                      have HShX : Aside0 (∀ W, Below W12.heap.size W12 W → (Below W12.heap.size W12 W ∧ W.cell? ⟨w.heap.size, 0, none⟩ = some (.slice A0 n.pieces.length c0) ∧ W.cell? ⟨w.heap.size, 1, none⟩ = some (.slice (some adj) n.joints.length c1) ∧ W.cell? ⟨WR.heap.size, 0, none⟩ = some (.int .i64 ep) ∧ W.cell? ⟨WR.heap.size, 1, none⟩ = some (.int .i64 es) ∧ W.cell? ⟨WP.heap.size, 0, none⟩ = some (.int .i64 xp) ∧ W.cell? ⟨WP.heap.size, 1, none⟩ = some (.int .i64 xa) ∧ W.cell? ⟨WP.heap.size, 2, none⟩ = some (.int .i64 xw) ∧ W.cell? ⟨WP.heap.size, 3, none⟩ = some (.int .i64 xf))) := ⟨fun W hb => ⟨hb, (F12.out.rx.net.below hb).c 0 _ rfl, (F12.out.rx.net.below hb).c 1 _ rfl, (E12.out.below hb).c 0 _ rfl, (E12.out.below hb).c 1 _ rfl, (F12.out.c.below hb).c 0 _ rfl, (F12.out.c.below hb).c 1 _ rfl, (F12.out.c.below hb).c 2 _ rfl, (F12.out.c.below hb).c 3 _ rfl⟩⟩
                      go_cut [17] (fun sv W => ∃ bn, sv = .pointer (some ⟨bn, 0, none⟩) ∧ Aside0 (Below W12.heap.size W12 W) ∧ Aside0 (Bx W bn [.int .i64 np, .int .i64 na, .int .i64 nw, .int .i64 nf, .slice none 0 0]) ∧ Aside0 (W12.heap.size ≤ bn))
                      case first =>
                        go_region_held3 (fun W => Below W12.heap.size W12 W ∧ W.cell? ⟨w.heap.size, 0, none⟩ = some (.slice A0 n.pieces.length c0) ∧ W.cell? ⟨w.heap.size, 1, none⟩ = some (.slice (some adj) n.joints.length c1) ∧ W.cell? ⟨WR.heap.size, 0, none⟩ = some (.int .i64 ep) ∧ W.cell? ⟨WR.heap.size, 1, none⟩ = some (.int .i64 es) ∧ W.cell? ⟨WP.heap.size, 0, none⟩ = some (.int .i64 xp) ∧ W.cell? ⟨WP.heap.size, 1, none⟩ = some (.int .i64 xa) ∧ W.cell? ⟨WP.heap.size, 2, none⟩ = some (.int .i64 xw) ∧ W.cell? ⟨WP.heap.size, 3, none⟩ = some (.int .i64 xf))
                          (first | (with_reducible assumption) | (with_reducible exact HShX.out _ (by with_reducible assumption)) | (with_reducible exact HShX.out _ (by repeat (first | (with_reducible assumption) | (with_reducible refine below_set ?_ (Below.size (by with_reducible assumption))) | (with_reducible refine below_set ?_ (Nat.le_refl _)) | (with_reducible refine below_set ?_ (by omega)) | (with_reducible refine below_alloc ?_ _) | (with_reducible exact Below.refl _ _) | (with_reducible refine below_drew ?_)))))
                          (first
                            | (go_at_call 143; go_split_ands; (with_reducible refine Calls.mono (l3enter_any n ((A0, c0), (some adj, c1)) ⟨ep, es⟩ _ (HR.out.below (below_more F12.out.rx.b0 (by assumption))) (by have := HEB.out; simp only; omega) (by have := HEB.out; simp only; omega)) ?_); rintro e hXw0 ⟨rfl, b3⟩; rw [HEV.out]; have hXq0 : Below W12.heap.size W12 hXw0 := below_more (by assumption) b3; have hXz0 := hXq0.size; (first | (with_reducible have hXX0 := Aside0.mk ((Bx.new _ [.int .i64 0, .int .i64 0, .int .i64 0, .int .i64 0, .slice none 0 0] 172).below b3)) | (with_reducible have hXX0 := Aside0.mk ((Bx.drew (Bx.new _ [.int .i64 0, .int .i64 0, .int .i64 0, .int .i64 0, .slice none 0 0] 172)).below b3)) | skip); have hXQ0 := Aside0.mk hXq0; clear b3)
                            | (go_at_call 158; go_split_ands; (with_reducible refine Calls.mono (l3room_any n ((A0, c0), (some adj, c1)) ⟨xp, xa, xw⟩ _ (HR.out.below (below_more F12.out.rx.b0 (by assumption))) (by have := HXB.out; simp only; omega) (by have := HXB.out; simp only; omega) (by have := HXB.out; simp only; omega) (by have := HXB.out; simp only; omega) (by have := HLN2.out; simp only; omega)) ?_); rintro e hXw1 ⟨rfl, b3⟩; rw [← HRMX.out]; have hXq1 : Below W12.heap.size W12 hXw1 := below_more (by assumption) b3; have hXz1 := hXq1.size; (first | (with_reducible have hXX1 := Aside0.mk (hXX0.out.below b3)) | (with_reducible have hXX1 := Aside0.mk ((Bx.new _ [.int .i64 0, .int .i64 0, .int .i64 0, .int .i64 0, .slice none 0 0] 172).below b3)) | (with_reducible have hXX1 := Aside0.mk ((Bx.drew (Bx.new _ [.int .i64 0, .int .i64 0, .int .i64 0, .int .i64 0, .slice none 0 0] 172)).below b3)) | skip); (first | (have hXx0 := hXX1.out.c 0 _ rfl; have hXxf0 := hXX1.out.f 0; have hXx1 := hXX1.out.c 1 _ rfl; have hXxf1 := hXX1.out.f 1; have hXx2 := hXX1.out.c 2 _ rfl; have hXxf2 := hXX1.out.f 2; have hXx3 := hXX1.out.c 3 _ rfl; have hXxf3 := hXX1.out.f 3; have hXx4 := hXX1.out.c 4 _ rfl; have hXxf4 := hXX1.out.f 4; have hXxl := hXX1.out.lt) | skip); have hXQ1 := Aside0.mk hXq1; clear b3))
                        all_goals
                          try go_wp2_with fail
                          go_meet
                          case rel =>
                            first
                              | (with_reducible refine ⟨_, rfl, ⟨below_alloc hXQ1.out _⟩, ⟨Bx.new' _ _ _ rfl⟩, ⟨hXQ1.out.size⟩⟩; done)
                              | (refine ⟨_, rfl, ⟨?_⟩, ⟨?_⟩, ⟨?_⟩⟩
                                 · repeat (first | (with_reducible exact hXQ1.out) | (with_reducible refine below_set ?_ (Below.size (by with_reducible assumption))) | (with_reducible refine below_set ?_ (Nat.le_refl _)) | (with_reducible refine below_set ?_ (by omega)) | (with_reducible refine below_alloc ?_ _))
                                 · exact (((((hXX1.out.set (i := 0) (by simp) _).set (i := 1) (by simp) _).set (i := 2) (by simp) _).set (i := 3) (by simp) _).set (i := 4) (by simp) _)
                                 · first | exact Nat.le_refl _ | exact hXQ1.out.size | exact hXQ0.out.size)
                      case rest =>
                      obtain ⟨hXb, rfl, hXB, XX, HXb⟩ := hcut
                      obtain ⟨WX, hWX⟩ : ∃ WX, WX = wc := ⟨_, rfl⟩
                      subst hWX
                      have Q13 := Aside0.mk (below_more Q12.out hXB.out)
                      have N13 := Aside0.mk (RY3.out.below Q13.out).rx.net
                      have HXb2 := Aside0.mk (show WR.heap.size ≤ hXb by have h1 := HXb.out; have h2 := Q12.out.size; omega)
                      obtain ⟨lf, hlf⟩ : ∃ l, l = F - nf := ⟨_, rfl⟩
                      have hwl : IntKind.i64.wrap (F - nf) = lf := by rw [hlf]; have h0 := HNF.out; have h1 := HB.out; exact wrap64 (by omega) (by omega)
                      have HLF := Aside0.mk hlf
                      have hnb := spotB_iff.1 HNS.out
                      have hlen3 := HG.out.len hnb.1 hnb.2.1
                      simp only at hnb hlen3
                      have HNB := Aside0.mk hnb
                      have HLN3 := Aside0.mk hlen3
                      obtain ⟨rn, hrn⟩ : ∃ r, r = roomS n ⟨np, na, nw⟩ := ⟨_, rfl⟩
                      have HRN := Aside0.mk hrn
                      clear hlf hnb hlen3 hrn
                      have n0 := N13.out.c 0 _ rfl; have n1 := N13.out.c 1 _ rfl
                      have x0 := XX.out.c 0 _ rfl; have x1 := XX.out.c 1 _ rfl; have x2 := XX.out.c 2 _ rfl; have x3 := XX.out.c 3 _ rfl
                      go_wp2_with fail
                      (with_reducible refine Calls.mono (l3room_any n ((A0, c0), (some adj, c1)) ⟨np, na, nw⟩ _ (HR.out.below (below_more RY3.out.rx.b0 Q13.out)) (by have := HNB.out; simp only; omega) (by have := HNB.out; simp only; omega) (by have := HNB.out; simp only; omega) (by have := HNB.out; simp only; omega) (by have := HLN3.out; simp only; omega)) ?_)
                      rintro e W14 ⟨rfl, b14⟩
                      rw [← HRN.out]
                      have Q14 := Aside0.mk (below_more Q13.out b14)
                      have X14 := Aside0.mk (XX.out.below b14)
                      clear b14 n0 n1 x0 x1 x2 x3
                      by_cases hto : lf ≤ rn
                      · obtain ⟨mv, hmv⟩ : ∃ m, m = lf * nw := ⟨_, rfl⟩
                        have hlb : 0 < lf ∧ lf ≤ 1000000 := by have h1 := HLF.out; have h2 := HNF.out; have h3 := HB.out; omega
                        have hmb : -1000000 ≤ mv ∧ mv ≤ 1000000 := by
                          rcases HNB.out.2.2.1 with h | h <;> (rw [h] at hmv; omega)
                        have hab : 0 ≤ na ∧ na ≤ 10000000 := by have h1 := HNB.out; have h2 := HLN3.out; omega
                        have hw1 : IntKind.i64.wrap (lf * nw) = mv := by rw [← hmv]; exact wrap64 (by omega) (by omega)
                        obtain ⟨nm, hnm⟩ : ∃ m, m = na + mv := ⟨_, rfl⟩
                        have hw2 : IntKind.i64.wrap (na + mv) = nm := by rw [hnm]; exact wrap64 (by omega) (by omega)
                        have HLK : Aside0 (lookR n F st (⟨np, na, nw⟩, nf) = (addR st.1 ⟨np, nm, nw⟩, st.2)) := ⟨by rw [lookR_told (show F - nf ≤ roomS n ⟨np, na, nw⟩ by rw [← HLF.out, ← HRN.out]; exact hto)]; unfold endR moveS; simp only; rw [← HLF.out, ← hmv, ← hnm]⟩
                        obtain ⟨WB, hWB⟩ : ∃ WB, WB = W14.setCell ⟨hXb, 1, none⟩ (.int .i64 nm) := ⟨_, rfl⟩
                        have QB : Aside0 (Below WR.heap.size WR WB) := ⟨by rw [hWB]; exact below_set Q14.out HXb2.out⟩
                        have XB : Aside0 (Bx WB hXb [.int .i64 np, .int .i64 nm, .int .i64 nw, .int .i64 nf, .slice none 0 0]) := ⟨by rw [hWB]; exact X14.out.set (i := 1) (by simp) _⟩
                        have RYB := Aside0.mk (RY3.out.below QB.out)
                        have HWB := Aside0.mk hWB
                        clear hmv hlb hmb hab hnm hWB
                        have x1 := X14.out.c 1 _ rfl; have x2 := X14.out.c 2 _ rfl; have xf1 := X14.out.f 1; have xl := X14.out.lt
                        have hol := HSL.out.1
                        go_wp2_with fail
                        rw [← HWB.out]
                        clear x1 x2 xf1 xl
                        go_loopw [19, 121] (fun v19 v121 wr => ∃ (j : Nat) (b : Bool), v121 = .int .i64 (j : Int) ∧ v19 = .bool b ∧ j ≤ st.1.length ∧ Aside0 (b = inL (st.1.take j) (⟨np, nm, nw⟩ : SpotT)) ∧ Aside0 (Below WB.heap.size WB wr)) (fun _ v121 _ => st.1.length - (intOf v121).toNat)
                        case atStart => exact ⟨0, false, rfl, rfl, Nat.zero_le _, ⟨(inL_nil _ _).symm⟩, ⟨Below.refl _ _⟩⟩
                        case round =>
                          obtain ⟨j, b, rfl, rfl, hj, HBJ, BJ⟩ := hrel
                          by_cases hlt4 : j < st.1.length
                          · obtain ⟨ad4, e4, y0, y1, y2⟩ := at_Spot (Kd.R_reads' (Kd.R_below RYB.out.rx.o BJ.out)).2.2 j hlt4
                            subst e4
                            obtain ⟨⟨yp, ya, yw⟩, hy⟩ : ∃ y, y = st.1.getD j default := ⟨_, rfl⟩
                            rw [← hy] at y0 y1 y2
                            simp only at y0 y1 y2
                            have HBN := Aside0.mk (inL_next st.1 (⟨np, nm, nw⟩ : SpotT) (⟨yp, ya, yw⟩ : SpotT) j hlt4 hy)
                            have hj0 : (0 : Int) ≤ (j : Int) := by omega
                            have hj1 : (j : Int) < (st.1.length : Int) := by omega
                            have B5 := Aside0.mk (below_alloc BJ.out (.cells #[.int .i64 yp, .int .i64 ya, .int .i64 yw] 38))
                            have X5 := Aside0.mk (XB.out.below B5.out)
                            have Y5 := Aside0.mk (Bx.new wr [.int .i64 yp, .int .i64 ya, .int .i64 yw] 38)
                            clear hy
                            cases b with
                            | true =>
                              go_wp2_with fail
                              go_roundw
                              case rel => exact ⟨j + 1, true, by go_num, rfl, by omega, ⟨(inL_was HBN.out HBJ.out).symm⟩, B5⟩
                              case measure => simp [intOf]; omega
                            | false =>
                              have x0 := X5.out.c 0 _ rfl; have x1 := X5.out.c 1 _ rfl; have x2 := X5.out.c 2 _ rfl
                              have s0 := Y5.out.c 0 _ rfl; have s1 := Y5.out.c 1 _ rfl; have s2 := Y5.out.c 2 _ rfl
                              by_cases hpq : (⟨yp, ya, yw⟩ : SpotT) = ⟨np, nm, nw⟩
                              · injection hpq with q1 q2 q3
                                subst q1
                                subst q2
                                subst q3
                                go_wp2_with fail
                                go_roundw
                                case rel => exact ⟨j + 1, true, by go_num, rfl, by omega, ⟨(inL_yes HBN.out rfl).symm⟩, B5⟩
                                case measure => simp [intOf]; omega
                              · have HBN2 := Aside0.mk (inL_no HBN.out HBJ.out hpq)
                                have HPQ := Aside0.mk hpq
                                clear hpq HBN HBJ
                                go_wp2_with fail
                                all_goals first
                                  | exact absurd (by rw [SpotT.mk.injEq]; exact ⟨by assumption, by assumption, by assumption⟩) HPQ.out
                                  | (go_roundw
                                     case rel => exact ⟨j + 1, false, by go_num, rfl, by omega, ⟨HBN2.out.symm⟩, ⟨below_alloc BJ.out _⟩⟩
                                     case measure => simp [intOf]; omega)
                          · have hje : j = st.1.length := by omega
                            have hge4 : ¬ (j : Int) < (st.1.length : Int) := by omega
                            have HBE := Aside0.mk (show b = inL st.1 (⟨np, nm, nw⟩ : SpotT) by have h := HBJ.out; rw [hje, List.take_length] at h; exact h)
                            clear hje
                            cases b with
                            | true =>
                              go_wp2_with fail
                              go_roundw
                              case rel =>
                                refine ⟨q + 1, by go_num, by omega, ⟨?_⟩⟩
                                rw [HSN.out, HLK.out, addR_in HBE.out.symm]
                                exact RYB.out.below BJ.out
                              case measure => simp [intOf]; omega
                            | false =>
                              have RYJ := Aside0.mk (RYB.out.below BJ.out)
                              have XJ := Aside0.mk (XB.out.below BJ.out)
                              have ZJ := Aside0.mk (show w.heap.size + 2 ≤ wr.heap.size by have h1 := RYJ.out.rx.hB; have h2 := RYJ.out.rx.hW; omega)
                              have x0 := XJ.out.c 0 _ rfl; have x1 := XJ.out.c 1 _ rfl; have x2 := XJ.out.c 2 _ rfl
                              go_wp2_with ((with_reducible refine gate_callP (b := .append) (xs := #[.tmp 135, .tmp 138]) rfl ?_); at_builtin; refine Kd.R_append kSpot (w0 := wr) (w.heap.size + 2) rfl (.tmp 135) (.tmp 138) 122 38 (.agg #[.int .i64 0, .int .i64 0, .int .i64 0]) 24 rfl Try.underlying122 info38R rfl (by decide) (by omega) (.slice OA3 st.1.length oc3) st.1 ⟨np, nm, nw⟩ [.int .i64 np, .int .i64 nm, .int .i64 nw] (fun k => k ≠ WP.heap.size) (fun _ => False) rfl (by first | (go_simp; done) | (go_simp; rfl)) (kSpot_mkM _ _ _ ⟨np, nm, nw⟩) (fun _ hk => hk.elim) (fun k hk => by have := RYJ.out.c.lt; omega) RYJ.out.rx.o (Below.refl _ _) ZJ.out (by omega) ?_; intro v1 w9 hR9 hB9 hG9 hat9; have RY9 := Aside0.mk (RYJ.out.addOut hR9 hB9 hG9); clear hR9 hB9 hG9 hat9)
                              go_roundw
                              case rel =>
                                refine ⟨q + 1, by go_num, by omega, ⟨?_⟩⟩
                                rw [HSN.out, HLK.out, addR_new HBE.out.symm]
                                exact RY9.out
                              case measure => simp [intOf]; omega
                      · have HLK : Aside0 (lookR n F st (⟨np, na, nw⟩, nf) = (st.1, addR st.2 (⟨np, na, nw⟩, nf))) := ⟨lookR_more (show ¬ F - nf ≤ roomS n ⟨np, na, nw⟩ by rw [← HLF.out, ← HRN.out]; exact hto)⟩
                        have RYB := Aside0.mk (RY3.out.below Q14.out)
                        have hnl := HSL.out.2
                        go_wp2_with fail
                        go_loopw [22, 142] (fun v22 v142 wr => ∃ (j : Nat) (b : Bool), v142 = .int .i64 (j : Int) ∧ v22 = .bool b ∧ j ≤ st.2.length ∧ Aside0 (b = inL (st.2.take j) ((⟨np, na, nw⟩, nf) : ItemT)) ∧ Aside0 (Below W14.heap.size W14 wr)) (fun _ v142 _ => st.2.length - (intOf v142).toNat)
                        case atStart => exact ⟨0, false, rfl, rfl, Nat.zero_le _, ⟨(inL_nil _ _).symm⟩, ⟨Below.refl _ _⟩⟩
                        case round =>
                          obtain ⟨j, b, rfl, rfl, hj, HBJ, BJ⟩ := hrel
                          by_cases hlt4 : j < st.2.length
                          · obtain ⟨ad4, e4, y0, y1, y2, y3, y4⟩ := at_Item (Kd.R_reads' (Kd.R_below RYB.out.rx.nx BJ.out)).2.2 j (by rw [List.length_map]; exact hlt4)
                            subst e4
                            obtain ⟨⟨⟨yp, ya, yw⟩, yf⟩, hy⟩ : ∃ y, y = st.2.getD j default := ⟨_, rfl⟩
                            rw [← hy] at y0 y1 y2 y3
                            simp only at y0 y1 y2 y3
                            have HBN := Aside0.mk (inL_next st.2 ((⟨np, na, nw⟩, nf) : ItemT) ((⟨yp, ya, yw⟩, yf) : ItemT) j hlt4 hy)
                            have hj0 : (0 : Int) ≤ (j : Int) := by omega
                            have hj1 : (j : Int) < (st.2.length : Int) := by omega
                            have B5 := Aside0.mk (below_alloc BJ.out (.cells #[.int .i64 yp, .int .i64 ya, .int .i64 yw, .int .i64 yf, .slice none 0 0] 172))
                            have X5 := Aside0.mk (X14.out.below B5.out)
                            have Y5 := Aside0.mk (Bx.new wr [.int .i64 yp, .int .i64 ya, .int .i64 yw, .int .i64 yf, .slice none 0 0] 172)
                            clear hy
                            cases b with
                            | true =>
                              go_wp2_with fail
                              go_roundw
                              case rel => exact ⟨j + 1, true, by go_num, rfl, by omega, ⟨(inL_was HBN.out HBJ.out).symm⟩, B5⟩
                              case measure => simp [intOf]; omega
                            | false =>
                              have x0 := X5.out.c 0 _ rfl; have x1 := X5.out.c 1 _ rfl; have x2 := X5.out.c 2 _ rfl; have x3 := X5.out.c 3 _ rfl
                              have s0 := Y5.out.c 0 _ rfl; have s1 := Y5.out.c 1 _ rfl; have s2 := Y5.out.c 2 _ rfl; have s3 := Y5.out.c 3 _ rfl
                              by_cases q1 : yp = np
                              · by_cases q2 : ya = na
                                · by_cases q3 : yw = nw
                                  · by_cases q4 : yf = nf
                                    · subst q1
                                      subst q2
                                      subst q3
                                      subst q4
                                      have e4 : (yf == yf) = true := by simp
                                      have HBN2 := Aside0.mk (inL_yes HBN.out rfl)
                                      clear HBN HBJ
                                      go_wp2_with fail
                                      go_roundw
                                      case rel => exact ⟨j + 1, true, by go_num, rfl, by omega, ⟨HBN2.out.symm⟩, ⟨below_alloc BJ.out _⟩⟩
                                      case measure => simp [intOf]; omega
                                    · subst q1
                                      subst q2
                                      subst q3
                                      have e4 : (yf == nf) = false := by simpa using q4
                                      have HBN2 := Aside0.mk (inL_no HBN.out HBJ.out (fun h => by injection h with h1 h2; injection h1 with h3 h4 h5; exact q4 h2))
                                      clear HBN HBJ q4
                                      go_wp2_with fail
                                      go_roundw
                                      case rel => exact ⟨j + 1, false, by go_num, rfl, by omega, ⟨HBN2.out.symm⟩, ⟨below_alloc BJ.out _⟩⟩
                                      case measure => simp [intOf]; omega
                                  · subst q1
                                    subst q2
                                    have e3 : (yw == nw) = false := by simpa using q3
                                    have HBN2 := Aside0.mk (inL_no HBN.out HBJ.out (fun h => by injection h with h1 h2; injection h1 with h3 h4 h5; exact q3 h5))
                                    clear HBN HBJ q3
                                    go_wp2_with fail
                                    go_roundw
                                    case rel => exact ⟨j + 1, false, by go_num, rfl, by omega, ⟨HBN2.out.symm⟩, ⟨below_alloc BJ.out _⟩⟩
                                    case measure => simp [intOf]; omega
                                · subst q1
                                  have e2 : (ya == na) = false := by simpa using q2
                                  have HBN2 := Aside0.mk (inL_no HBN.out HBJ.out (fun h => by injection h with h1 h2; injection h1 with h3 h4 h5; exact q2 h4))
                                  clear HBN HBJ q2
                                  go_wp2_with fail
                                  go_roundw
                                  case rel => exact ⟨j + 1, false, by go_num, rfl, by omega, ⟨HBN2.out.symm⟩, ⟨below_alloc BJ.out _⟩⟩
                                  case measure => simp [intOf]; omega
                              · have e1 : (yp == np) = false := by simpa using q1
                                have HBN2 := Aside0.mk (inL_no HBN.out HBJ.out (fun h => by injection h with h1 h2; injection h1 with h3 h4 h5; exact q1 h3))
                                clear HBN HBJ q1
                                go_wp2_with fail
                                go_roundw
                                case rel => exact ⟨j + 1, false, by go_num, rfl, by omega, ⟨HBN2.out.symm⟩, ⟨below_alloc BJ.out _⟩⟩
                                case measure => simp [intOf]; omega
                          · have hje : j = st.2.length := by omega
                            have hge4 : ¬ (j : Int) < (st.2.length : Int) := by omega
                            have HBE := Aside0.mk (show b = inL st.2 ((⟨np, na, nw⟩, nf) : ItemT) by have h := HBJ.out; rw [hje, List.take_length] at h; exact h)
                            clear hje
                            cases b with
                            | true =>
                              go_wp2_with fail
                              go_roundw
                              case rel =>
                                refine ⟨q + 1, by go_num, by omega, ⟨?_⟩⟩
                                rw [HSN.out, HLK.out, addR_in HBE.out.symm]
                                exact RYB.out.below BJ.out
                              case measure => simp [intOf]; omega
                            | false =>
                              have RYJ := Aside0.mk (RYB.out.below BJ.out)
                              have XJ := Aside0.mk (X14.out.below BJ.out)
                              have x0 := XJ.out.c 0 _ rfl; have x1 := XJ.out.c 1 _ rfl; have x2 := XJ.out.c 2 _ rfl; have x3 := XJ.out.c 3 _ rfl; have x4 := XJ.out.c 4 _ rfl
                              go_wp2_with ((with_reducible refine gate_callP (b := .append) (xs := #[.tmp 164, .tmp 166]) rfl ?_); at_builtin; refine Kd.R_append kHdr (w0 := wr) WO.heap.size rfl (.tmp 164) (.tmp 166) 169 172 (.agg #[.int .i64 0, .int .i64 0, .int .i64 0, .int .i64 0, .slice none 0 0]) 56 rfl Try.underlying169 info172R rfl (by decide) (by omega) (.slice NA3 st.2.length nc3) (st.2.map hR) (hR (⟨np, na, nw⟩, nf)) [.int .i64 np, .int .i64 na, .int .i64 nw, .int .i64 nf, .slice none 0 0] (fun k => k ≠ WP.heap.size) (fun _ => False) rfl (by first | (go_simp; done) | (go_simp; rfl)) (kHdr_mkM _ _ _ (hR (⟨np, na, nw⟩, nf))) (fun _ hk => hk.elim) (fun k hk => by have := RYJ.out.c.lt; omega) RYJ.out.rx.nx (Below.refl _ _) RYJ.out.rx.hW (by rw [List.length_map]; omega) ?_; intro v1 w9 hR9 hB9 hG9 hat9; have RY9 := Aside0.mk (RYJ.out.addNext (x := (⟨np, na, nw⟩, nf)) (by rw [List.map_append]; exact hR9) hB9 hG9); clear hR9 hB9 hG9 hat9)
                              go_roundw
                              case rel =>
                                refine ⟨q + 1, by go_num, by omega, ⟨?_⟩⟩
                                rw [HSN.out, HLK.out, addR_new HBE.out.symm]
                                exact RY9.out
                              case measure => simp [intOf]; omega
                    · have hqe : q = E.length := by omega
                      have HQE := Aside0.mk hqe
                      have hge : ¬ (q : Int) < (E.length : Int) := by omega
                      clear hqe
                      go_wp2_with fail
                      go_roundw
                      case rel =>
                        have hY := RY3.out.rx
                        have hl := endRS_len n F (lineRS n F out line a) (⟨xp, xa, xw⟩, xf) q
                        have e1 : endRS n F (lineRS n F out line a) (⟨xp, xa, xw⟩, xf) q = lineRS n F out line (a + 1) := by
                          rw [lineRS_next hlt, ← HCE.out]
                          exact endRS_all (by rw [HQE.out, nextR_len, ← HE.out])
                        rw [e1] at hY hl
                        have h1 := HLE.out
                        have h2 := HE2.out
                        exact ⟨a + 1, by go_num, by omega, ⟨hY.unbox⟩, ⟨by omega, by omega⟩⟩
                      case measure => simp [intOf]; omega
              · have hal : a = line.length := by omega
                have HAL := Aside0.mk hal
                have hge : ¬ (a : Int) < (line.length : Int) := by omega
                have RXE := Aside0.mk (show RX w [.slice A0 n.pieces.length c0, .slice A1 n.joints.length c1] WO.heap.size w.heap.size wr _ _ (.slice LA line.length lc) (roundR n F out line).1 (roundR n F out line).2 line by have h := RX2.out; rw [hal, lineRS_all] at h; exact h)
                clear hal
                obtain ⟨OB, ob, eOB⟩ := Kd.R_slice RXE.out.o
                obtain ⟨NB, nb, eNB⟩ := Kd.R_slice RXE.out.nx
                rw [List.length_map] at eNB
                subst eOB
                subst eNB
                obtain ⟨o1, ho1⟩ : ∃ k, k = (roundR n F out line).1.length := ⟨_, rfl⟩
                obtain ⟨n1, hn1⟩ : ∃ k, k = (roundR n F out line).2.length := ⟨_, rfl⟩
                rw [← ho1, ← hn1] at RXE
                rw [← ho1, ← hn1]
                have HGG : Aside0 (RG n ⟨ap, aa, aw⟩ F (1000 - ov + 1) out line) := ⟨by rw [show 1000 - ov + 1 = 1001 - ov by omega]; exact GG.out⟩
                have HO1 := Aside0.mk ho1
                have HN1 := Aside0.mk hn1
                clear ho1 hn1 RX2 HLE
                by_cases h1 : 200 < o1
                · have HV : Aside0 (reachV n ⟨ap, aa, aw⟩ F = []) := ⟨by rw [HVG.out]; exact HGG.out.fail (List.Perm.refl _) HNE.out (.inl (by rw [← HO1.out]; exact h1))⟩
                  have h1' : (200 : Int) < (o1 : Int) := by omega
                  go_wp2_with fail
                  go_ret
                  exact ⟨_, rfl, by rw [HV.out]; exact Kd.R_nil .., RXE.out.b0⟩
                · have h1' : ¬ (200 : Int) < (o1 : Int) := by omega
                  by_cases h2 : 1000 < n1
                  · have HV : Aside0 (reachV n ⟨ap, aa, aw⟩ F = []) := ⟨by rw [HVG.out]; exact HGG.out.fail (List.Perm.refl _) HNE.out (.inr (.inl (by rw [← HN1.out]; exact h2)))⟩
                    have h2' : (1000 : Int) < (n1 : Int) := by omega
                    go_wp2_with fail
                    go_ret
                    exact ⟨_, rfl, by rw [HV.out]; exact Kd.R_nil .., RXE.out.b0⟩
                  · have h2' : ¬ (1000 : Int) < (n1 : Int) := by omega
                    by_cases h3 : ov = 1000
                    · have HV : Aside0 (reachV n ⟨ap, aa, aw⟩ F = []) := ⟨by rw [HVG.out]; exact HGG.out.fail (List.Perm.refl _) HNE.out (.inr (.inr (by omega)))⟩
                      have h3' : ((ov : Int) == 1000) = true := by simp; omega
                      go_wp2_with fail
                      go_ret
                      exact ⟨_, rfl, by rw [HV.out]; exact Kd.R_nil .., RXE.out.b0⟩
                    · have h3' : ((ov : Int) == 1000) = false := by simp; omega
                      have HNX := Aside0.mk (HGG.out.next HG.out (List.Perm.refl _) HNE.out (by rw [← HO1.out, ← HN1.out]; omega))
                      go_wp2_with fail
                      go_roundw
                      case rel =>
                        refine ⟨ov + 1, (roundR n F out line).1, (roundR n F out line).2, by go_num, by omega, ⟨RXE.out.net⟩, ⟨Kd.R_mono RXE.out.o (fun _ _ => trivial)⟩, ⟨Kd.R_lower (Kd.R_mono RXE.out.nx (fun _ _ => trivial)) RXE.out.hB⟩, ⟨by rw [show 1001 - (ov + 1) = 1000 - ov by omega]; exact HNX.out⟩, ⟨RXE.out.b0⟩⟩
                      case measure => simp [intOf]; omega
end Go.Proofs.Ytckcffjnffcjcaa
set_option linter.unusedVariables false
set_option linter.unusedSimpArgs false
namespace Go.Proofs.Ytckcffjnffcjcaa
open Go.RowKit Go.Proofs.YtckcffjnffcjcaaW.PrintWords
theorem eq_keyGo (a b : ItemT) (w : World) : (Op.equal 192 (.agg #[.int .i64 a.1.piece, .int .i64 a.1.at_, .int .i64 a.1.way, .int .i64 a.2]) (.agg #[.int .i64 b.1.piece, .int .i64 b.1.at_, .int .i64 b.1.way, .int .i64 b.2])).run Try.prog w = .ok (((a.1.piece == b.1.piece) && ((a.1.at_ == b.1.at_) && (a.1.way == b.1.way))) && (a.2 == b.2)) w := by
  unfold Op.equal Op.maxDepth
  exact eqA_of Try.underlying192 (by kernel_rfl) (eqf_cons' (a := .agg #[.int .i64 a.1.piece, .int .i64 a.1.at_, .int .i64 a.1.way]) (b := .agg #[.int .i64 b.1.piece, .int .i64 b.1.at_, .int .i64 b.1.way]) (by kernel_rfl) (by kernel_rfl) (by kernel_rfl) (eqA_of Try.underlying38 (by kernel_rfl) (eqf_cons' (by kernel_rfl) (by kernel_rfl) (by kernel_rfl) (run_equalIn_int w 9997 3 .i64 .i64 a.1.piece b.1.piece Try.underlying3) (eqf_cons' (by kernel_rfl) (by kernel_rfl) (by kernel_rfl) (run_equalIn_int w 9997 3 .i64 .i64 a.1.at_ b.1.at_ Try.underlying3) (eqf_last (by kernel_rfl) (by kernel_rfl) (by kernel_rfl) (run_equalIn_int w 9997 3 .i64 .i64 a.1.way b.1.way Try.underlying3))))) (eqf_last (by kernel_rfl) (by kernel_rfl) (by kernel_rfl) (run_equalIn_int w 9998 3 .i64 .i64 a.2 b.2 Try.underlying3)))
theorem ItemT.ext_iff' (a b : ItemT) : a = b ↔ (a.1.piece = b.1.piece ∧ a.1.at_ = b.1.at_ ∧ a.1.way = b.1.way) ∧ a.2 = b.2 := by
  obtain ⟨⟨p, q, r⟩, s⟩ := a
  obtain ⟨⟨p', q', r'⟩, s'⟩ := b
  simp
def keyGo : KeyEnc Try.prog ItemT where
  t := 192
  kind := _
  enc := fun x => .agg #[.int .i64 x.1.piece, .int .i64 x.1.at_, .int .i64 x.1.way, .int .i64 x.2]
  hk := Try.underlying192
  inj := fun a b h => by
    injection h with h
    have := congrArg Array.toList h
    simp at this
    exact (ItemT.ext_iff' a b).2 ⟨⟨this.1, this.2.1, this.2.2.1⟩, this.2.2.2⟩
  same := fun a => by simp [Instr.sameBits]
  chk := fun e a w => by kernel_rfl
  find := find_of_eq (fun a b => (((a.1.piece == b.1.piece) && ((a.1.at_ == b.1.at_) && (a.1.way == b.1.way))) && (a.2 == b.2))) (fun a b => by simp only [Bool.and_eq_true, beq_iff_eq]; exact (ItemT.ext_iff' a b).symm) (.inr fun a b => by simp [Instr.sameNow]) (fun a b w => eq_keyGo a b w)
theorem up_set {κ : Type} [DecidableEq κ] (l : List κ) (k : κ) : up (l.map (fun x => (x, true))) k true = (addR l k).map (fun x => (x, true)) := by
  by_cases h : k ∈ l
  · rw [show addR l k = l by unfold addR; rw [if_pos h]]
    induction l with
    | nil => cases h
    | cons a l ih =>
      by_cases e : a = k
      · subst e; simp [up]
      · have hk : k ∈ l := by
          rcases List.mem_cons.1 h with h | h
          · exact absurd h.symm e
          · exact h
        have := ih hk
        simp only [List.map_cons, up]
        rw [if_neg e, this]
  · rw [show addR l k = l ++ [k] by unfold addR; rw [if_neg h]]
    rw [up_none (fun p hp => by
      obtain ⟨x, hx, rfl⟩ := List.mem_map.1 hp
      exact fun e => h (by rw [← e]; exact hx))]
    simp
theorem addR_map {α β : Type} [DecidableEq α] [DecidableEq β] (g : α → β) (l : List α) (x : α) (h : ∀ y ∈ l, g y = g x → y = x) : (addR l x).map g = addR (l.map g) (g x) := by
  unfold addR
  by_cases hx : x ∈ l
  · rw [if_pos hx, if_pos (List.mem_map_of_mem hx)]
  · rw [if_neg hx, if_neg (fun hm => by
      obtain ⟨y, hy, e⟩ := List.mem_map.1 hm
      exact hx (by rw [← h y hy e]; exact hy))]
    simp
/-- What the open map holds of an item. -/
def goR (n : NetT) (F : Int) (x : ItemT) : ItemT := (moveS x.1 (roomS n x.1), F - x.2 - roomS n x.1)
def lookG (n : NetT) (F : Int) (st : List SpotT × List ItemT) (x : ItemT) : List SpotT × List ItemT :=
  if toldR n F x = true then (addR st.1 (endR F x), st.2) else (st.1, addR st.2 (goR n F x))
/-- A spot where a piece is entered. -/
def EntS (n : NetT) (x : ItemT) : Prop := ∃ e, endB n e = true ∧ x.1 = enterS n e
theorem goR_inj {n : NetT} {F : Int} {x y : ItemT} (hx : EntS n x) (hy : EntS n y) (h : goR n F x = goR n F y) : x = y := by
  obtain ⟨e, _, he⟩ := hx
  obtain ⟨e', _, he'⟩ := hy
  have h1 := congrArg (fun z => z.1.piece) h
  have h2 := congrArg (fun z => z.1.way) h
  have h3 := congrArg (fun z => z.2) h
  simp only [goR, moveS] at h1 h2 h3
  have e1 : x.1 = y.1 := by
    rw [he, he'] at h1 h2 ⊢
    unfold enterS at *
    by_cases a : e.side = 0 <;> by_cases b : e'.side = 0 <;> simp only [a, b, if_true, if_false] at h1 h2 ⊢
    · rw [h1]
    · omega
    · omega
    · rw [h1]
  rw [e1] at h3
  have e2 : x.2 = y.2 := by omega
  exact Prod.ext e1 e2
theorem lookG_look {n : NetT} {F : Int} {out : List SpotT} {next : List ItemT} {x : ItemT} (hn : ∀ y ∈ next, EntS n y) (hx : EntS n x) : lookG n F (out, next.map (goR n F)) x = ((lookR n F (out, next) x).1, (lookR n F (out, next) x).2.map (goR n F)) := by
  unfold lookG lookR
  by_cases h : toldR n F x = true
  · rw [if_pos h, if_pos h]
  · rw [if_neg h, if_neg h]
    simp only
    rw [addR_map (goR n F) next x (fun y hy e => goR_inj (hn y hy) hx e)]
theorem lookR_ent {n : NetT} {F : Int} {st : List SpotT × List ItemT} {x : ItemT} (hn : ∀ y ∈ st.2, EntS n y) (hx : EntS n x) : ∀ y ∈ (lookR n F st x).2, EntS n y := by
  unfold lookR
  split
  · exact hn
  · intro y hy
    rcases (mem_addR _ _ _).1 hy with h | h
    · exact hn y h
    · rw [h]; exact hx
structure RI {ι κ : Type} (line ps rest : List ι) (g : ι → κ) (left : List (κ × Bool)) : Prop where
  perm : line.Perm (ps ++ rest)
  inj : ∀ x ∈ line, ∀ y ∈ line, g x = g y → x = y
  nd : rest.Nodup
  mem : ∀ p, p ∈ left ↔ ∃ x ∈ rest, p = (g x, true)
theorem nodup_of_map {α β : Type} {g : α → β} {l : List α} (h : (l.map g).Nodup) : l.Nodup := by
  rw [List.nodup_iff_pairwise_ne] at *
  rw [List.pairwise_map] at h
  exact h.imp (fun hab e => hab (by rw [e]))
theorem RI.start {ι κ : Type} {line : List ι} {g : ι → κ} (hi : ∀ x ∈ line, ∀ y ∈ line, g x = g y → x = y) (hn : (line.map g).Nodup) : RI line [] line g ((line.map g).map (fun x => (x, true))) :=
  ⟨List.Perm.refl _, hi, nodup_of_map hn, fun p => by
    simp only [List.map_map, List.mem_map, Function.comp]
    constructor
    · rintro ⟨x, hx, rfl⟩; exact ⟨x, hx, rfl⟩
    · rintro ⟨x, hx, rfl⟩; exact ⟨x, hx, rfl⟩⟩
theorem RI.next {ι κ : Type} [DecidableEq ι] {line ps rest : List ι} {g : ι → κ} {left left' : List (κ × Bool)} {k : κ} {v : Bool} (h : RI line ps rest g left) (hk : (k, v) ∈ left) (h1 : ∀ p, p ∈ left ↔ p = (k, v) ∨ p ∈ left') (h2 : ∀ p ∈ left', p.1 ≠ k) :
    ∃ x rest', x ∈ line ∧ k = g x ∧ v = true ∧ RI line (ps ++ [x]) rest' g left' := by
  obtain ⟨x, hx, e⟩ := (h.mem _).1 hk
  injection e with e1 e2
  have hxl : ∀ y ∈ rest, y ∈ line := fun y hy => h.perm.mem_iff.2 (List.mem_append_right _ hy)
  refine ⟨x, rest.erase x, hxl x hx, e1, e2, ?_, h.inj, h.nd.erase x, fun p => ?_⟩
  · refine h.perm.trans ?_
    rw [List.append_assoc]
    exact List.Perm.append_left _ ((List.perm_cons_erase hx).trans (List.Perm.refl _))
  · constructor
    · intro hp
      obtain ⟨y, hy, rfl⟩ := (h.mem p).1 ((h1 p).2 (.inr hp))
      refine ⟨y, ?_, rfl⟩
      rw [h.nd.mem_erase_iff]
      exact ⟨fun e => h2 _ hp (by rw [e, e1]), hy⟩
    · rintro ⟨y, hy, rfl⟩
      rw [h.nd.mem_erase_iff] at hy
      rcases (h1 (g y, true)).1 ((h.mem _).2 ⟨y, hy.2, rfl⟩) with e | e
      · injection e with e _
        exact absurd (h.inj y (hxl y hy.2) x (hxl x hx) (by rw [e, e1])) hy.1
      · exact e
theorem RI.done {ι κ : Type} {line ps rest : List ι} {g : ι → κ} (h : RI line ps rest g []) : line.Perm ps := by
  cases rest with
  | nil => simpa using h.perm
  | cons x rest => exact absurd ((h.mem (g x, true)).2 ⟨x, List.mem_cons_self, rfl⟩) (by simp)
theorem RI.length {ι κ : Type} {line ps rest : List ι} {g : ι → κ} {left : List (κ × Bool)} (h : RI line ps rest g left) : ps.length ≤ line.length := by
  have := h.perm.length_eq
  rw [List.length_append] at this
  omega
theorem RG.ent {n : NetT} {s : SpotT} {F : Int} {k : Nat} {out : List SpotT} {line : List ItemT} (h : RG n s F k out line) : ∀ x ∈ line, ∀ y ∈ line, goR n F x = goR n F y → x = y := by
  intro x hx y hy e
  rcases h.inj with hl | hl
  · rw [hl] at hx hy
    rw [List.mem_singleton.1 hx, List.mem_singleton.1 hy]
  · exact goR_inj (hl x hx) (hl y hy) e
theorem roundR_snoc {n : NetT} {F : Int} {out : List SpotT} {ps : List ItemT} {x : ItemT} : roundR n F out (ps ++ [x]) = (nextR n x).foldl (lookR n F) (roundR n F out ps) := by
  unfold roundR
  rw [List.flatMap_append, List.foldl_append]
  simp
theorem moveS_there {n : NetT} {s : SpotT} (h : spotB n s = true) (hg : Good n) : spotB n (moveS s (roomS n s)) = true := by
  have h1 := spotB_iff.1 h
  have h2 := hg.len h1.1 h1.2.1
  rw [spotB_iff]
  unfold moveS roomS
  simp only
  rcases h1.2.2.1 with e | e <;> rw [e]
  · rw [if_pos rfl]; omega
  · rw [if_neg (by omega)]; omega
end Go.Proofs.Ytckcffjnffcjcaa
set_option linter.unusedVariables false
set_option linter.unusedSimpArgs false
namespace Go.Proofs.Ytckcffjnffcjcaa
open Go.RowKit Go.Proofs.YtckcffjnffcjcaaW.PrintWords
/-- How many are still to come, read out of the world. -/
theorem Iter.meas {P : Program} {κ ν : Type} {K : KeyEnc P κ} {V : ν → Value} {w : World} {b r : Nat} {l left : List (κ × ν)} (h : Iter K V w b r l left) : ∃ es clock, w.heap[b]? = some (.map es clock) ∧ (leftOf es (w.iterSeen r)).size = left.length := by
  obtain ⟨hm, es, clock, since, c0, seen, h1, h2, h3, h4, h5, h6, h7, hleft⟩ := h
  refine ⟨es, clock, h1, ?_⟩
  have e : w.iterSeen r = seen := by unfold World.iterSeen; rw [h3]
  rw [e, hleft]
  have hl : es.toList.length = l.length := by have := congrArg List.length h2; simpa using this
  unfold leftOf
  rw [← Array.length_toList, Array.toList_filter, List.length_map]
  have : ∀ (l : List (κ × ν)) (es : List MapEntry), es.length = l.length → (es.filter (fun e => !seen.contains e.born)).length = ((l.zip es).filter (fun p => !seen.contains p.2.born)).length := by
    intro l
    induction l with
    | nil => intro es h; rw [List.length_eq_zero_iff.1 h]; rfl
    | cons a l ih =>
      intro es h
      cases es with
      | nil => simp at h
      | cons e es =>
        have := ih es (by simpa using h)
        rw [List.zip_cons_cons, List.filter_cons, List.filter_cons]
        split <;> simp_all
  exact this l es.toList hl
/-- What a call leaves that changes one of the two maps. -/
def KeepM (w w' : World) (mt mo : Nat) : Prop := ∃ W1 b o, w' = putMap W1 b o ∧ (b = mt ∨ b = mo) ∧ Below w.heap.size w W1
section
variable {w w' w0 : World} {mt mo : Nat}
theorem KeepM.block (h : KeepM w w' mt mo) {k : Nat} (hk : k < w.heap.size) (h1 : k ≠ mt) (h2 : k ≠ mo) : w'.heap[k]? = w.heap[k]? := by
  obtain ⟨W1, b, o, rfl, hb, hB⟩ := h
  rw [putMap_other W1 b o (by rcases hb with rfl | rfl <;> assumption)]
  exact hB.block k hk
theorem KeepM.size (h : KeepM w w' mt mo) : w.heap.size ≤ w'.heap.size := by
  obtain ⟨W1, b, o, rfl, hb, hB⟩ := h
  simpa [putMap] using hB.size
theorem KeepM.below {B : Nat} (h : KeepM w w' mt mo) (h0 : Below B w0 w) (h1 : B ≤ mt) (h2 : B ≤ mo) (h3 : B ≤ w.heap.size) : Below B w0 w' := by
  obtain ⟨W1, b, o, rfl, hb, hB⟩ := h
  exact putMap_below (h0.trans ⟨hB.os, hB.tape, hB.output, hB.size, fun k hk => hB.block k (Nat.lt_of_lt_of_le hk h3)⟩) (by rcases hb with rfl | rfl <;> assumption)
theorem KeepM.bx (h : KeepM w w' mt mo) {k : Nat} {vs : List Value} (hx : Bx w k vs) (h1 : k ≠ mt) (h2 : k ≠ mo) : Bx w' k vs := by
  obtain ⟨W1, b, o, rfl, hb, hB⟩ := h
  exact (hx.below hB).put (by rcases hb with rfl | rfl <;> assumption)
theorem KeepM.iter (h : KeepM w w' mt mo) {P : Program} {κ ν : Type} {K : KeyEnc P κ} {V : ν → Value} {b r : Nat} {l left : List (κ × ν)} (hi : Iter K V w b r l left) (h1 : b ≠ mt) (h2 : b ≠ mo) (h3 : r ≠ mt) (h4 : r ≠ mo) : Iter K V w' b r l left :=
  hi.move (h.block hi.map.lt h1 h2) (h.block hi.ltr h3 h4)
theorem KeepM.row (h : KeepM w w' mt mo) {α : Type} {d : Kd α} {e base : Nat} {v : Value} {xs : List α} {ok : Nat → Prop} (hr : d.R e w base ok v xs) (h1 : mt < base) (h2 : mo < base) : d.R e w' base ok v xs :=
  Kd.R_mono (Kd.R_step (Kd.R_bound hr) (fun k hk hl => h.block hl (by have := hk.2.1; omega) (by have := hk.2.1; omega))) (fun _ hk => hk.1)
end
/-- The two maps: their variables' boxes and the maps themselves. -/
structure RM (W : World) (b7 b8 mt mo : Nat) (out : List SpotT) (O : List ItemT) : Prop where
  t : Bx W b7 [.map (some mt)]
  o : Bx W b8 [.map (some mo)]
  mT : MapOf keySpot Value.bool W mt (out.map (fun x => (x, true)))
  mO : MapOf keyGo Value.bool W mo (O.map (fun x => (x, true)))
  ne : b7 ≠ mt ∧ b7 ≠ mo ∧ b8 ≠ mt ∧ b8 ≠ mo ∧ mt ≠ mo
section
variable {W W1 : World} {b7 b8 mt mo : Nat} {out : List SpotT} {O : List ItemT}
theorem RM.below (h : RM W b7 b8 mt mo out O) (hb : Below W.heap.size W W1) : RM W1 b7 b8 mt mo out O := ⟨h.t.below hb, h.o.below hb, h.mT.below hb, h.mO.below hb, h.ne⟩
theorem RM.told (h : RM W b7 b8 mt mo out O) (y : SpotT) : ∃ o, (Instr.mapUpdate 189 (.map (some mt)) (.agg #[.int .i64 y.piece, .int .i64 y.at_, .int .i64 y.way]) (.bool true)).run Try.prog W = .ok () (putMap W mt o) ∧ RM (putMap W mt o) b7 b8 mt mo (addR out y) O := by
  obtain ⟨o, h1, h2⟩ := h.mT.update (t := 189) (e := 4) Try.underlying189 y true
  rw [up_set] at h2
  exact ⟨o, h1, h.t.put h.ne.1, h.o.put h.ne.2.2.1, h2, h.mO.put (Ne.symm h.ne.2.2.2.2), h.ne⟩
theorem RM.open_ (h : RM W b7 b8 mt mo out O) (y : ItemT) : ∃ o, (Instr.mapUpdate 190 (.map (some mo)) (.agg #[.int .i64 y.1.piece, .int .i64 y.1.at_, .int .i64 y.1.way, .int .i64 y.2]) (.bool true)).run Try.prog W = .ok () (putMap W mo o) ∧ RM (putMap W mo o) b7 b8 mt mo out (addR O y) := by
  obtain ⟨o, h1, h2⟩ := h.mO.update (t := 190) (e := 4) Try.underlying190 y true
  rw [up_set] at h2
  exact ⟨o, h1, h.t.put h.ne.2.1, h.o.put h.ne.2.2.2.1, h.mT.put h.ne.2.2.2.2, h2, h.ne⟩
end
set_option maxRecDepth 100000 in
set_option maxHeartbeats 8000000 in
theorem look_any (n : NetT) (u : (Option Addr × Nat) × (Option Addr × Nat)) (x : ItemT) (F : Int) (b3 b7 b8 mt mo : Nat) (out : List SpotT) (O : List ItemT) (w : World) (hr : RdNet 67 w u n) (hg : Good n) (hx : spotB n x.1 = true) (hF : 0 ≤ F - x.2 ∧ F - x.2 ≤ 1000000)
    (hn : Bx w b3 [.slice u.1.1 n.pieces.length u.1.2, .slice u.2.1 n.joints.length u.2.2]) (hm : RM w b7 b8 mt mo out O) :
    Calls Try.prog 162 #[.agg #[.int .i64 x.1.piece, .int .i64 x.1.at_, .int .i64 x.1.way], .int .i64 (F - x.2), .pointer (some ⟨b3, 0, none⟩), .pointer (some ⟨b7, 0, none⟩), .pointer (some ⟨b8, 0, none⟩)] w
      fun e w' => e = .returned (.tuple #[]) ∧ RM w' b7 b8 mt mo (lookG n F (out, O) x).1 (lookG n F (out, O) x).2 ∧ KeepM w w' mt mo := by
  obtain ⟨⟨A0, c0⟩, ⟨A1, c1⟩⟩ := u
  have HR := Aside0.mk hr
  have HG := Aside0.mk hg
  have HN := Aside0.mk (show Bx w b3 [.slice A0 n.pieces.length c0, .slice A1 n.joints.length c1] from hn)
  have HM := Aside0.mk hm
  clear hr hg hn hm
  obtain ⟨⟨sp, sa, sw⟩, sf⟩ := x
  simp only at hx hF
  obtain ⟨lf, hlf⟩ : ∃ l, l = F - sf := ⟨_, rfl⟩
  simp only
  rw [← hlf] at hF
  rw [← hlf]
  have HF := Aside0.mk hF
  have HLF := Aside0.mk hlf
  have hxb := spotB_iff.1 hx
  have hlen := HG.out.len hxb.1 hxb.2.1
  have hrm := roomS_bd HG.out hx
  simp only at hxb hlen
  have HXB := Aside0.mk hxb
  have HLN := Aside0.mk hlen
  obtain ⟨rm, hrm1⟩ : ∃ r, r = roomS n ⟨sp, sa, sw⟩ := ⟨_, rfl⟩
  rw [← hrm1] at hrm
  have HRM := Aside0.mk hrm1
  have HRB := Aside0.mk hrm
  obtain ⟨W0, hW0⟩ : ∃ W0, W0 = w.alloc (.cells #[.int .i64 sp, .int .i64 sa, .int .i64 sw] 38) := ⟨_, rfl⟩
  have fb : Aside0 (Below w.heap.size w W0) := ⟨by rw [hW0]; exact below_alloc (Below.refl _ _) _⟩
  have S0 : Aside0 (Bx W0 w.heap.size [.int .i64 sp, .int .i64 sa, .int .i64 sw]) := ⟨by rw [hW0]; exact Bx.new w _ 38⟩
  have N0 := Aside0.mk (HN.out.below fb.out)
  have HW := Aside0.mk hW0
  clear hx hF hlf hxb hlen hrm hrm1 hW0
  have n0 := N0.out.c 0 _ rfl; have n1 := N0.out.c 1 _ rfl
  have s0 := S0.out.c 0 _ rfl; have s1 := S0.out.c 1 _ rfl; have s2 := S0.out.c 2 _ rfl
  go_enter Try.func162, Try.ntmps162
  go_upto_region 1 with (fail)
  rw [← HW.out]
  go_wp2_with fail
  (with_reducible refine Calls.mono (room_any n ((A0, c0), (A1, c1)) ⟨sp, sa, sw⟩ _ (HR.out.below fb.out) (by have := HXB.out; simp only; omega) (by have := HXB.out; simp only; omega) (by have := HXB.out; simp only; omega) (by have := HXB.out; simp only; omega) (by have := HLN.out; simp only; omega)) ?_)
  rintro e w1 ⟨rfl, b1⟩
  rw [← HRM.out]
  have S1 := Aside0.mk (S0.out.below b1)
  have B1 := Aside0.mk (below_more fb.out b1)
  clear n0 n1 s0 s1 s2 b1
  obtain ⟨⟨hp, hs⟩, hh⟩ : ∃ e, e = headE ⟨sp, sa, sw⟩ := ⟨_, rfl⟩
  have HHV : Aside0 ((Value.agg #[.int .i64 (headE ⟨sp, sa, sw⟩).piece, .int .i64 (headE ⟨sp, sa, sw⟩).side]) = (Value.agg #[.int .i64 hp, .int .i64 hs])) := ⟨by rw [← hh]⟩
  rw [HHV.out]
  clear hh
  obtain ⟨W2, hW2⟩ : ∃ W2, W2 = w1.alloc (.cells #[.int .i64 hp, .int .i64 hs] 67) := ⟨_, rfl⟩
  have b2 : Below w1.heap.size w1 W2 := by rw [hW2]; exact below_alloc (Below.refl _ _) _
  have S2 := Aside0.mk (S1.out.below b2)
  have B2 := Aside0.mk (below_more B1.out b2)
  have HW2 := Aside0.mk hW2
  clear hW2 b2
  by_cases hle : lf ≤ rm
  · obtain ⟨mv, hmv⟩ : ∃ m, m = lf * sw := ⟨_, rfl⟩
    have hb : 0 ≤ lf ∧ lf ≤ 1000000 := HF.out
    have hmb : -1000000 ≤ mv ∧ mv ≤ 1000000 := by
      rcases HXB.out.2.2.1 with h | h <;> (rw [h] at hmv; omega)
    have hab : 0 ≤ sa ∧ sa ≤ 10000000 := by have h1 := HXB.out; have h2 := HLN.out; omega
    have hw1 : IntKind.i64.wrap (lf * sw) = mv := by rw [← hmv]; exact wrap64 (by omega) (by omega)
    obtain ⟨na, hna⟩ : ∃ m, m = sa + mv := ⟨_, rfl⟩
    have hw2 : IntKind.i64.wrap (sa + mv) = na := by rw [hna]; exact wrap64 (by omega) (by omega)
    have HV : Aside0 (lookG n F (out, O) (⟨sp, sa, sw⟩, sf) = (addR out ⟨sp, na, sw⟩, O)) := ⟨by
      unfold lookG
      rw [if_pos (by unfold toldR; simp only [decide_eq_true_eq]; rw [← HLF.out, ← HRM.out]; exact hle)]
      unfold endR moveS
      simp only
      rw [← HLF.out, ← hmv, ← hna]⟩
    obtain ⟨W3, hW3⟩ : ∃ W3, W3 = W2.setCell ⟨w.heap.size, 1, none⟩ (.int .i64 na) := ⟨_, rfl⟩
    have B3 : Aside0 (Below w.heap.size w W3) := ⟨by rw [hW3]; exact below_set B2.out (Nat.le_refl _)⟩
    have S3 : Aside0 (Bx W3 w.heap.size [.int .i64 sp, .int .i64 na, .int .i64 sw]) := ⟨by rw [hW3]; exact S2.out.set (i := 1) (by simp) _⟩
    have M3 := Aside0.mk (HM.out.below B3.out)
    have HW3 := Aside0.mk hW3
    obtain ⟨o, hup, M4⟩ := M3.out.told ⟨sp, na, sw⟩
    have HM4 := Aside0.mk M4
    clear hmv hb hmb hab hna hW3 M4
    have s1 := S2.out.c 1 _ rfl; have s2 := S2.out.c 2 _ rfl; have sf1 := S2.out.f 1; have sl := S2.out.lt
    have t0 := M3.out.t.c 0 _ rfl
    have q0 := S3.out.c 0 _ rfl; have q1 := S3.out.c 1 _ rfl; have q2 := S3.out.c 2 _ rfl
    go_upto_region 2 with (fail)
    rw [← HW2.out]
    go_upto_region 4 with (fail)
    rw [← HW3.out]
    go_wp2_with fail
    refine bodyPost_ret (v := .tuple #[]) (by simp [results, Try.results162, go_sem]) rfl ?_
    refine ⟨rfl, by rw [HV.out]; exact HM4.out, _, _, _, rfl, .inl rfl, B3.out⟩
  · obtain ⟨mv, hmv⟩ : ∃ m, m = rm * sw := ⟨_, rfl⟩
    have hb : 0 ≤ rm ∧ rm ≤ 10000000 := HRB.out
    have hmb : -10000000 ≤ mv ∧ mv ≤ 10000000 := by
      rcases HXB.out.2.2.1 with h | h <;> (rw [h] at hmv; omega)
    have hab : 0 ≤ sa ∧ sa ≤ 10000000 := by have h1 := HXB.out; have h2 := HLN.out; omega
    have hw1 : IntKind.i64.wrap (rm * sw) = mv := by rw [← hmv]; exact wrap64 (by omega) (by omega)
    obtain ⟨na, hna⟩ : ∃ m, m = sa + mv := ⟨_, rfl⟩
    have hw2 : IntKind.i64.wrap (sa + mv) = na := by rw [hna]; exact wrap64 (by omega) (by omega)
    obtain ⟨nl, hnl⟩ : ∃ m, m = lf - rm := ⟨_, rfl⟩
    have hw3 : IntKind.i64.wrap (lf - rm) = nl := by rw [hnl]; have := HF.out; exact wrap64 (by omega) (by omega)
    have HV : Aside0 (lookG n F (out, O) (⟨sp, sa, sw⟩, sf) = (out, addR O (⟨sp, na, sw⟩, nl))) := ⟨by
      unfold lookG
      rw [if_neg (by unfold toldR; simp only [decide_eq_true_eq]; rw [← HLF.out, ← HRM.out]; exact hle)]
      unfold goR moveS
      simp only
      rw [← HLF.out, ← HRM.out, ← hmv, ← hna, ← hnl]⟩
    obtain ⟨W3, hW3⟩ : ∃ W3, W3 = W2.setCell ⟨w.heap.size, 1, none⟩ (.int .i64 na) := ⟨_, rfl⟩
    have B3 : Aside0 (Below w.heap.size w W3) := ⟨by rw [hW3]; exact below_set B2.out (Nat.le_refl _)⟩
    have S3 : Aside0 (Bx W3 w.heap.size [.int .i64 sp, .int .i64 na, .int .i64 sw]) := ⟨by rw [hW3]; exact S2.out.set (i := 1) (by simp) _⟩
    have M3 := Aside0.mk (HM.out.below B3.out)
    have HW3 := Aside0.mk hW3
    obtain ⟨o, hup, M4⟩ := M3.out.open_ (⟨sp, na, sw⟩, nl)
    have HM4 := Aside0.mk M4
    clear hmv hb hmb hab hna hW3 M4 hnl
    have s1 := S2.out.c 1 _ rfl; have s2 := S2.out.c 2 _ rfl; have sf1 := S2.out.f 1; have sl := S2.out.lt
    have t0 := M3.out.o.c 0 _ rfl
    have q0 := S3.out.c 0 _ rfl; have q1 := S3.out.c 1 _ rfl; have q2 := S3.out.c 2 _ rfl
    go_upto_region 2 with (fail)
    rw [← HW2.out]
    go_upto_region 6 with (fail)
    rw [← HW3.out]
    go_wp2_with fail
    go_end0
    refine ⟨rfl, by rw [HV.out]; exact HM4.out, _, _, _, rfl, .inr rfl, B3.out⟩
theorem look_left (n : NetT) (u : (Option Addr × Nat) × (Option Addr × Nat)) (x : ItemT) (F left : Int) (hl : left = F - x.2) (b3 b7 b8 mt mo : Nat) (out : List SpotT) (O : List ItemT) (w : World) (hr : RdNet 67 w u n) (hg : Good n) (hx : spotB n x.1 = true) (hF : 0 ≤ left ∧ left ≤ 1000000)
    (hn : Bx w b3 [.slice u.1.1 n.pieces.length u.1.2, .slice u.2.1 n.joints.length u.2.2]) (hm : RM w b7 b8 mt mo out O) :
    Calls Try.prog 162 #[.agg #[.int .i64 x.1.piece, .int .i64 x.1.at_, .int .i64 x.1.way], .int .i64 left, .pointer (some ⟨b3, 0, none⟩), .pointer (some ⟨b7, 0, none⟩), .pointer (some ⟨b8, 0, none⟩)] w
      fun e w' => e = .returned (.tuple #[]) ∧ RM w' b7 b8 mt mo (lookG n F (out, O) x).1 (lookG n F (out, O) x).2 ∧ KeepM w w' mt mo := by
  subst hl
  exact look_any n u x F b3 b7 b8 mt mo out O w hr hg hx hF hn hm
/-- An iterator's step, as KeepM tells it. -/
theorem KeepM.step {W W' : World} {r : Nat} {o : Obj} (h : W' = putMap W r o ∨ W' = putMap W.drew r o) : KeepM W W' r r := by
  rcases h with h | h
  · exact ⟨W, r, o, h, .inl rfl, Below.refl _ _⟩
  · exact ⟨W.drew, r, o, h, .inl rfl, below_drew (Below.refl _ _)⟩
/-- Amid a round of the rounds: the two maps, the range over the old one, the net. -/
structure RN (w : World) (nv : List Value) (b7 b8 mt mo2 mo r2 : Nat) (l left : List (ItemT × Bool)) (es : Array MapEntry) (clock : Nat) (W : World) (out : List SpotT) (O : List ItemT) : Prop where
  rm : RM W b7 b8 mt mo2 out O
  it : Iter keyGo Value.bool W mo r2 l left
  hp : W.heap[mo]? = some (.map es clock)
  net : Bx W w.heap.size nv
  b0 : Below w.heap.size w W
  ne : mo ≠ mt ∧ mo ≠ mo2 ∧ r2 ≠ mt ∧ r2 ≠ mo2 ∧ w.heap.size < mt ∧ w.heap.size < mo2 ∧ w.heap.size < r2 ∧ b7 ≠ r2 ∧ b8 ≠ r2
section
variable {w W W1 : World} {nv : List Value} {b7 b8 mt mo2 mo r2 : Nat} {l left left' : List (ItemT × Bool)} {es : Array MapEntry} {clock : Nat} {out out' : List SpotT} {O O' : List ItemT}
theorem RN.below (h : RN w nv b7 b8 mt mo2 mo r2 l left es clock W out O) (hb : Below W.heap.size W W1) : RN w nv b7 b8 mt mo2 mo r2 l left es clock W1 out O :=
  ⟨h.rm.below hb, h.it.below hb, (hb.block mo h.it.map.lt).trans h.hp, h.net.below hb, below_more h.b0 hb, h.ne⟩
theorem RN.look (h : RN w nv b7 b8 mt mo2 mo r2 l left es clock W out O) (k : KeepM W W1 mt mo2) (hm : RM W1 b7 b8 mt mo2 out' O') : RN w nv b7 b8 mt mo2 mo r2 l left es clock W1 out' O' :=
  ⟨hm, k.iter h.it h.ne.1 h.ne.2.1 h.ne.2.2.1 h.ne.2.2.2.1, (k.block h.it.map.lt h.ne.1 h.ne.2.1).trans h.hp, k.bx h.net (by have := h.ne; omega) (by have := h.ne; omega), k.below h.b0 (by have := h.ne; omega) (by have := h.ne; omega) (by have := h.b0.size; omega), h.ne⟩
theorem RN.step (h : RN w nv b7 b8 mt mo2 mo r2 l left es clock W out O) {o : Obj} (k : W1 = putMap W r2 o ∨ W1 = putMap W.drew r2 o) (hi : Iter keyGo Value.bool W1 mo r2 l left') : RN w nv b7 b8 mt mo2 mo r2 l left' es clock W1 out O := by
  have K := KeepM.step k
  have hne := h.ne
  refine ⟨⟨K.bx h.rm.t (by omega) (by omega), K.bx h.rm.o (by omega) (by omega), h.rm.mT.move (K.block h.rm.mT.lt (by omega) (by omega)), h.rm.mO.move (K.block h.rm.mO.lt (by omega) (by omega)), h.rm.ne⟩, hi, (K.block h.it.map.lt h.it.ne h.it.ne).trans h.hp, K.bx h.net (by omega) (by omega), K.below h.b0 (by omega) (by omega) h.b0.size, hne⟩
theorem RN.meas (h : RN w nv b7 b8 mt mo2 mo r2 l left es clock W out O) : (leftOf es (W.iterSeen r2)).size = left.length := by
  obtain ⟨es', clock', h1, h2⟩ := h.it.meas
  rw [h.hp] at h1
  injection h1 with h1
  injection h1 with h1 _
  rw [h1]; exact h2
end
end Go.Proofs.Ytckcffjnffcjcaa
namespace Go.Proofs
open Go.Shelf
def Ytckcffjnffcjcaa.sortSp_ren : Go.Shelf.Ren := ⟨fun | 6 => 163 | 15 => 187 | 14 => 186 | 28 => 200 | 29 => 201 | 20 => 192 | 21 => 193 | 22 => 194 | 23 => 195 | 24 => 196 | 25 => 197 | 26 => 198 | 27 => 199 | 46 => 202 | 47 => 203 | 48 => 204 | 49 => 205 | 50 => 206 | 57 => 207 | n => n, fun | 22 => 122 | 24 => 38 | 25 => 197 | 3 => 3 | 39 => 230 | 0 => 0 | 53 => 242 | 55 => 133 | 4 => 4 | 46 => 236 | 45 => 235 | 50 => 225 | 5 => 5 | 9 => 9 | 66 => 244 | 70 => 248 | 76 => 250 | 77 => 158 | n => n, fun | n => n⟩
theorem Ytckcffjnffcjcaa.sortSp : Go.Proofs.SlLaysF0.n6 Try.prog Ytckcffjnffcjcaa.sortSp_ren := {
  mixed := by kernel_rfl
  f6 := ⟨Try.f163.name, by decide, Try.func163.trans (congrArg some (by kernel_rfl))⟩
  f14 := ⟨Try.f186.name, by decide, Try.func186.trans (congrArg some (by kernel_rfl))⟩
  f15 := Try.func187.trans (congrArg some (by kernel_rfl))
  f20 := ⟨Try.f192.name, by decide, Try.func192.trans (congrArg some (by kernel_rfl))⟩
  f21 := ⟨Try.f193.name, by decide, Try.func193.trans (congrArg some (by kernel_rfl))⟩
  f22 := ⟨Try.f194.name, by decide, Try.func194.trans (congrArg some (by kernel_rfl))⟩
  f23 := ⟨Try.f195.name, by decide, Try.func195.trans (congrArg some (by kernel_rfl))⟩
  f24 := ⟨Try.f196.name, by decide, Try.func196.trans (congrArg some (by kernel_rfl))⟩
  f25 := ⟨Try.f197.name, by decide, Try.func197.trans (congrArg some (by kernel_rfl))⟩
  f26 := ⟨Try.f198.name, by decide, Try.func198.trans (congrArg some (by kernel_rfl))⟩
  f27 := ⟨Try.f199.name, by decide, Try.func199.trans (congrArg some (by kernel_rfl))⟩
  f28 := Try.func200.trans (congrArg some (by kernel_rfl))
  f29 := Try.func201.trans (congrArg some (by kernel_rfl))
  f46 := ⟨Try.f202.name, by decide, Try.func202.trans (congrArg some (by kernel_rfl))⟩
  f47 := Try.func203.trans (congrArg some (by kernel_rfl))
  f48 := Try.func204.trans (congrArg some (by kernel_rfl))
  f49 := ⟨Try.f205.name, by decide, Try.func205.trans (congrArg some (by kernel_rfl))⟩
  f50 := ⟨Try.f206.name, by decide, Try.func206.trans (congrArg some (by kernel_rfl))⟩
  f57 := ⟨Try.f207.name, by decide, Try.func207.trans (congrArg some (by kernel_rfl))⟩
  t0 := Try.underlying0
  a0 := Try.isAgg0
  z0 := Try.sizeOf0
  v0 := Try.zeroValue0
  t3 := Try.underlying3
  a3 := Try.isAgg3
  z3 := Try.sizeOf3
  v3 := Try.zeroValue3
  t4 := Try.underlying4
  a4 := Try.isAgg4
  z4 := Try.sizeOf4
  v4 := Try.zeroValue4
  t5 := Try.underlying5
  a5 := Try.isAgg5
  z5 := Try.sizeOf5
  v5 := Try.zeroValue5
  t9 := Try.underlying9
  a9 := Try.isAgg9
  z9 := Try.sizeOf9
  v9 := Try.zeroValue9
  t22 := Try.underlying122
  a22 := Try.isAgg122
  z22 := Try.sizeOf122
  v22 := Try.zeroValue122
  t25 := Try.underlying197
  a25 := Try.isAgg197
  z25 := Try.sizeOf197
  v25 := Try.zeroValue197
  t39 := Try.underlying230
  a39 := Try.isAgg230
  z39 := Try.sizeOf230
  v39 := Try.zeroValue230
  t45 := Try.underlying235
  a45 := Try.isAgg235
  z45 := Try.sizeOf235
  v45 := Try.zeroValue235
  t46 := Try.underlying236
  a46 := Try.isAgg236
  z46 := Try.sizeOf236
  v46 := Try.zeroValue236
  t50 := Try.underlying225
  a50 := Try.isAgg225
  z50 := Try.sizeOf225
  v50 := Try.zeroValue225
  t53 := Try.underlying242
  a53 := Try.isAgg242
  z53 := Try.sizeOf242
  v53 := Try.zeroValue242
  t55 := Try.underlying133
  a55 := Try.isAgg133
  z55 := Try.sizeOf133
  v55 := Try.zeroValue133
  t66 := Try.underlying244
  a66 := Try.isAgg244
  z66 := Try.sizeOf244
  v66 := Try.zeroValue244
  t70 := Try.underlying248
  a70 := Try.isAgg248
  z70 := Try.sizeOf248
  v70 := Try.zeroValue248
  t76 := Try.underlying250
  a76 := Try.isAgg250
  z76 := Try.sizeOf250
  v76 := Try.zeroValue250
  t77 := Try.underlying158
  a77 := Try.isAgg158
  z77 := Try.sizeOf158
  v77 := Try.zeroValue158 }
def Ytckcffjnffcjcaa.cmpInt_ren : Go.Shelf.Ren := ⟨fun | 5 => 166 | 7 => 188 | n => n, fun | 22 => 3 | 3 => 3 | 4 => 4 | n => n, fun | n => n⟩
theorem Ytckcffjnffcjcaa.cmpInt : Go.Proofs.SlLaysC2.n5 Try.prog Ytckcffjnffcjcaa.cmpInt_ren := {
  mixed := by kernel_rfl
  f5 := ⟨Try.f166.name, by decide, Try.func166.trans (congrArg some (by kernel_rfl))⟩
  f7 := ⟨Try.f188.name, by decide, Try.func188.trans (congrArg some (by kernel_rfl))⟩
  t3 := Try.underlying3
  a3 := Try.isAgg3
  z3 := Try.sizeOf3
  v3 := Try.zeroValue3
  t4 := Try.underlying4
  a4 := Try.isAgg4
  z4 := Try.sizeOf4
  v4 := Try.zeroValue4
  t22 := Try.underlying3
  a22 := Try.isAgg3
  z22 := Try.sizeOf3
  v22 := Try.zeroValue3 }
end Go.Proofs
set_option linter.unusedVariables false
set_option linter.unusedSimpArgs false
namespace Go.Proofs.Ytckcffjnffcjcaa
open Go.RowKit Go.Proofs.YtckcffjnffcjcaaW.PrintWords
def encS (x : SpotT) : List Value := [.int .i64 x.piece, .int .i64 x.at_, .int .i64 x.way]
/-- How the closure compares. -/
def cmpS (x y : SpotT) : Int := if Go.Lib.compareInt x.piece y.piece ≠ 0 then Go.Lib.compareInt x.piece y.piece else if Go.Lib.compareInt x.at_ y.at_ ≠ 0 then Go.Lib.compareInt x.at_ y.at_ else Go.Lib.compareInt x.way y.way
theorem cmpI (a b : Int) : (a < b ∧ Go.Lib.compareInt a b = -1) ∨ (a = b ∧ Go.Lib.compareInt a b = 0) ∨ (b < a ∧ Go.Lib.compareInt a b = 1) := by
  unfold Go.Lib.compareInt
  rcases Int.lt_trichotomy a b with h | h | h
  · exact .inl ⟨h, by simp [h]⟩
  · exact .inr (.inl ⟨h, by simp [h]⟩)
  · exact .inr (.inr ⟨h, by rw [if_neg (by omega), if_pos h]⟩)
theorem ltS (x y : SpotT) : Go.Proofs.ltOf cmpS x y = spotLt x y := by
  unfold Go.Proofs.ltOf cmpS spotLt
  rcases cmpI x.piece y.piece with ⟨h, e⟩ | ⟨h, e⟩ | ⟨h, e⟩ <;> rw [e] <;> rcases cmpI x.at_ y.at_ with ⟨h2, e2⟩ | ⟨h2, e2⟩ | ⟨h2, e2⟩ <;> rw [e2] <;> rcases cmpI x.way y.way with ⟨h3, e3⟩ | ⟨h3, e3⟩ | ⟨h3, e3⟩ <;> rw [e3] <;> simp <;> omega
theorem swoS : Go.Sort.SWO (Go.Proofs.ltOf cmpS) where
  irrefl x := by rw [ltS]; unfold spotLt; simp
  trans x y z h1 h2 := by rw [ltS] at *; unfold spotLt at *; simp at *; omega
  ntrans x y z h1 h2 := by rw [ltS] at *; unfold spotLt at *; simp at *; omega
theorem flat_at (d : List SpotT) (i c : Nat) (hi : i < d.length) (hc : c < 3) : (Go.Sort.flatK encS 3 d.toArray)[i * 3 + c]! = (encS (d.getD i default))[c]! := by
  rw [Go.Sort.get_flatK encS 3 d.toArray (i * 3 + c) (by simp; omega)]
  rw [show (i * 3 + c) / 3 = i by omega, show (i * 3 + c) % 3 = c by omega]
  congr 2
  rw [getD_at d i hi]
  simp [hi]
theorem holds_spots {W : World} {base g cap : Nat} {ok : Nat → Prop} {xs : List SpotT} (h : kSpot.R 38 W base ok (.slice (some ⟨g, 0, none⟩) xs.length cap) xs) : Go.Sort.HoldsK encS 3 W g 0 xs.toArray := by
  intro j hj
  have hj3 : j < xs.length * 3 := by simpa using hj
  obtain ⟨g', cap', e, _, _, cells, hb⟩ := Kd.R_form h (by omega)
  injection e with e _ _
  injection e with e
  injection e with e _ _
  subst e
  refine ⟨?_, by simp [World.frozen?, hb]⟩
  obtain ⟨ad, ea, x0, x1, x2⟩ := at_Spot (Kd.R_reads' h).2.2 (j / 3) (by omega)
  obtain rfl : (⟨g, 0, none⟩ : Addr) = ad := by injection ea
  rw [add_lit] at x0 x1 x2
  have hc : j % 3 < 3 := by omega
  have hf := flat_at xs (j / 3) (j % 3) (by omega) hc
  rw [show j / 3 * 3 + j % 3 = j by omega] at hf
  rw [hf, Nat.zero_add]
  rcases (by omega : j % 3 = 0 ∨ j % 3 = 1 ∨ j % 3 = 2) with e | e | e
  · rw [e, show j = j / 3 * 3 by omega, show (j / 3 * 3) / 3 = j / 3 by omega]; exact x0
  · rw [e]; rw [show (⟨g, j, none⟩ : Addr) = ⟨g, j / 3 * 3 + 1, none⟩ by congr 1; omega]; exact x1
  · rw [e]; rw [show (⟨g, j, none⟩ : Addr) = ⟨g, j / 3 * 3 + 2, none⟩ by congr 1; omega]; exact x2
/-- Behind the sort the same row holds the other list; no other block has changed. -/
theorem sorted_spots {W : World} {base g cap m : Nat} {ok : Nat → Prop} {os : Array Obj} {xs ys : List SpotT} (h : kSpot.R 38 W base ok (.slice (some ⟨g, 0, none⟩) xs.length cap) xs) (hl : ys.length = xs.length) (hp : 0 < xs.length) :
    kSpot.R 38 (Go.Proofs.sortWorldK encS 3 W g 0 m ys.toArray os) base ok (.slice (some ⟨g, 0, none⟩) xs.length cap) ys ∧ W.grownBy (Go.Proofs.sortWorldK encS 3 W g 0 m ys.toArray os) (some g) := by
  obtain ⟨h0, inner, ⟨h1, h2⟩, h3⟩ := h
  rcases h2 with ⟨e, e2⟩ | ⟨g', cap', cur, e, hb, hg, hn, hcap, hsz, htk⟩
  · omega
  · injection e with e _ ecap
    injection e with e
    injection e with e _ _
    subst e
    subst ecap
    have hsz' : cur.size = cap * 3 := hsz
    have hgl : g < W.heap.size := (Array.getElem?_eq_some_iff.1 hg).1
    have hheap : (Go.Proofs.sortWorldK encS 3 W g 0 m ys.toArray os).heap[g]? = some (.cells (Go.Sort.putCells id 0 (Go.Sort.flatK encS 3 ys.toArray) cur) 38 (0, 0)) := by
      unfold Go.Proofs.sortWorldK Go.Sort.putRowK
      rw [Go.Sort.heap_grow_old _ _ (by simpa [Go.Sort.putRow, Go.Sort.mapBlock, Go.Sort.ahead] using hgl)]
      simp [Go.Sort.putRow, Go.Sort.mapBlock, Go.Sort.ahead, Array.getElem?_modify, hg, Go.Sort.onCells]
    have htake : (Go.Sort.putCells id 0 (Go.Sort.flatK encS 3 ys.toArray) cur).toList.take (xs.length * 3) = (Go.Sort.flatK encS 3 ys.toArray).toList := by
      apply List.ext_getElem?
      intro j
      by_cases hj : j < xs.length * 3
      · rw [List.getElem?_take_of_lt hj, Array.getElem?_toList]
        simp [Go.Sort.putCells, hl, hj, show j < cur.size by omega]
      · rw [List.getElem?_take_eq_none (by omega), List.getElem?_eq_none (by simp; omega)]
    refine ⟨⟨h0, (Go.Sort.flatK encS 3 ys.toArray).toList, ⟨by rw [Array.length_toList, Go.Sort.size_flatK]; rfl, .inr ⟨g, cap, _, by rw [hl], hb, hheap, by omega, hcap, by simp [Go.Sort.putCells]; exact hsz, by rw [hl]; exact htake⟩⟩, by rw [Array.length_toList, Go.Sort.size_flatK]; rfl, fun j p hj => ?_⟩, rfl, rfl, rfl, ?_, fun k hk hne => ?_⟩
    · have hjl : j < ys.length := (List.getElem?_eq_some_iff.1 hj).1
      have hpj : ys.getD j default = p := by rw [List.getD_eq_getElem?_getD, hj]; rfl
      have e : ((Go.Sort.flatK encS 3 ys.toArray).toList.drop (j * kSpot.sz)).take kSpot.sz = encS p := by
        apply List.ext_getElem?
        intro c
        show (((Go.Sort.flatK encS 3 ys.toArray).toList.drop (j * 3)).take 3)[c]? = _
        by_cases hc : c < 3
        · rw [List.getElem?_take_of_lt hc, List.getElem?_drop, Array.getElem?_toList]
          have hf := flat_at ys j c hjl hc
          rw [hpj] at hf
          have hlt : j * 3 + c < (Go.Sort.flatK encS 3 ys.toArray).size := by rw [Go.Sort.size_flatK]; simp; omega
          rw [getElem!_pos (Go.Sort.flatK encS 3 ys.toArray) (j * 3 + c) hlt] at hf
          rw [Array.getElem?_eq_getElem hlt, hf]
          rcases (by omega : c = 0 ∨ c = 1 ∨ c = 2) with e | e | e <;> subst e <;> rfl
        · rw [List.getElem?_take_eq_none (by omega), List.getElem?_eq_none (by simp [encS]; omega)]
      rw [e]
      exact kSpot_mkM _ _ _ p
    · simp [Go.Proofs.sortWorldK, Go.Sort.putRowK, Go.Sort.putRow, Go.Sort.mapBlock, Go.Sort.ahead, Go.Sort.grow]
    · unfold Go.Proofs.sortWorldK Go.Sort.putRowK
      rw [Go.Sort.heap_grow_old _ _ (by simpa [Go.Sort.putRow, Go.Sort.mapBlock, Go.Sort.ahead] using hk)]
      have : g ≠ k := fun e => hne (by rw [e])
      simp [Go.Sort.putRow, Go.Sort.mapBlock, Go.Sort.ahead, Array.getElem?_modify, this]
def or3 (a b c : Int) : Int := if a ≠ 0 then a else if b ≠ 0 then b else c
set_option maxRecDepth 100000 in
set_option maxHeartbeats 4000000 in
theorem cmpOr_any (g : Nat) (a b c : Int) (w : World) (h : Bx w g [.int .i64 a, .int .i64 b, .int .i64 c]) :
    Calls Try.prog 165 #[.slice (some ⟨g, 0, none⟩) 3 3] w fun e w' => e = .returned (.int .i64 (or3 a b c)) ∧ w' = w := by
  have H := Aside0.mk h
  clear h
  go_enter Try.func165, Try.ntmps165
  go_wp2_with fail
  go_loopw [8] (fun v8 wr => ∃ (i : Nat), v8 = .int .i64 (i : Int) ∧ i ≤ 3 ∧ Aside0 (wr = w) ∧ (0 < i → a = 0) ∧ (1 < i → b = 0) ∧ (2 < i → c = 0)) (fun v8 _ => 3 - (intOf v8).toNat)
  case atStart => exact ⟨0, rfl, by omega, ⟨rfl⟩, fun h => by omega, fun h => by omega, fun h => by omega⟩
  case round =>
    obtain ⟨i, rfl, hi, ⟨rfl⟩, h1, h2, h3⟩ := hrel
    by_cases hlt : i < 3
    · obtain ⟨v, hv, hva, hvb, hvc⟩ : ∃ v : Int, [Value.int .i64 a, .int .i64 b, .int .i64 c][i]? = some (.int .i64 v) ∧ (i = 0 → v = a) ∧ (i = 1 → v = b) ∧ (i = 2 → v = c) := by
        rcases (by omega : i = 0 ∨ i = 1 ∨ i = 2) with e | e | e <;> subst e
        · exact ⟨a, rfl, fun _ => rfl, fun h => by omega, fun h => by omega⟩
        · exact ⟨b, rfl, fun h => by omega, fun _ => rfl, fun h => by omega⟩
        · exact ⟨c, rfl, fun h => by omega, fun h => by omega, fun _ => rfl⟩
      have y := H.out.c i _ hv
      have hlt1 : (i : Int) < 3 := by omega
      have hlt0 : (0 : Int) ≤ (i : Int) := by omega
      have H1 := Aside0.mk h1; have H2 := Aside0.mk h2; have H3 := Aside0.mk h3
      have HA := Aside0.mk hva; have HB := Aside0.mk hvb; have HC := Aside0.mk hvc
      clear hv h1 h2 h3 hva hvb hvc
      by_cases hv0 : v = 0
      · have e0 : (v == 0) = true := by simpa using hv0
        have HV0 := Aside0.mk hv0
        clear hv0
        go_wp2_with fail
        go_roundw
        case rel =>
          have h1 := H1.out; have h2 := H2.out; have h3 := H3.out; have ha := HA.out; have hb := HB.out; have hc := HC.out; have hv0 := HV0.out
          exact ⟨i + 1, by go_num, by omega, ⟨by first | trivial | rfl⟩, fun h => by omega, fun h => by omega, fun h => by omega⟩
        case measure => simp [intOf]; omega
      · have e0 : (v == 0) = false := by simpa using hv0
        have HV0 := Aside0.mk hv0
        clear hv0
        have HR : Aside0 (or3 a b c = v) := ⟨by
          have h1 := H1.out; have h2 := H2.out; have ha := HA.out; have hb := HB.out; have hc := HC.out; have hv0 := HV0.out
          unfold or3
          rcases (by omega : i = 0 ∨ i = 1 ∨ i = 2) with e | e | e
          · rw [← ha e, if_pos hv0]
          · rw [if_neg (by have := h1 (by omega); omega), ← hb e, if_pos hv0]
          · rw [if_neg (by have := h1 (by omega); omega), if_neg (by have := h2 (by omega); omega), ← hc e]⟩
        go_wp2_with fail
        go_ret
        exact ⟨by rw [HR.out]; rfl, rfl⟩
    · have hge : ¬ (i : Int) < 3 := by omega
      have HR : Aside0 (or3 a b c = 0) := ⟨by unfold or3; rw [if_neg (by have := h1 (by omega); omega), if_neg (by have := h2 (by omega); omega)]; exact h3 (by omega)⟩
      go_wp2_with fail
      go_ret
      exact ⟨by rw [HR.out]; rfl, rfl⟩
/-- A world that has only grown. -/
def GW (W w : World) : Prop := ∃ q os, w = Go.Sort.grow (W.drewN q) os
theorem GW.refl (W : World) : GW W W := ⟨0, #[], by rw [Go.Sort.grow_empty]; rfl⟩
theorem GW.alloc {W w : World} (h : GW W w) (o : Obj) : GW W (w.alloc o) := by
  obtain ⟨q, os, rfl⟩ := h
  exact ⟨q, os ++ #[o], by rw [Go.Sort.alloc_eq_grow, Go.Sort.grow_grow]⟩
theorem GW.drew {W w : World} (h : GW W w) : GW W w.drew := by
  obtain ⟨q, os, rfl⟩ := h
  exact ⟨q + 1, os, rfl⟩
theorem GW.trans {W w w' : World} (h : GW W w) (k : GW w w') : GW W w' := by
  obtain ⟨q, os, rfl⟩ := h
  obtain ⟨q', os', rfl⟩ := k
  refine ⟨q + q', os ++ os', ?_⟩
  simp [Go.Sort.grow, World.drewN, Array.append_assoc, Nat.add_assoc]
theorem GW.below {W w : World} (h : GW W w) : Below W.heap.size W w := by
  obtain ⟨q, os, rfl⟩ := h
  exact ⟨rfl, rfl, rfl, by simp [Go.Sort.grow], fun k hk => Go.Sort.heap_grow_old _ _ hk⟩
set_option maxRecDepth 100000 in
set_option maxHeartbeats 4000000 in
theorem cmpSpots_any (x y : SpotT) (w : World) : Calls Try.prog 164 #[.agg #[.int .i64 x.piece, .int .i64 x.at_, .int .i64 x.way], .agg #[.int .i64 y.piece, .int .i64 y.at_, .int .i64 y.way]] w
    fun e w' => e = .returned (.int .i64 (cmpS x y)) ∧ GW w w' := by
  obtain ⟨xp, xa, xw⟩ := x
  obtain ⟨yp, ya, yw⟩ := y
  have hcon : ∀ a b W, Calls Try.prog 166 #[.int .i64 a, .int .i64 b] W fun e w' => e = .returned (.int .i64 (Go.Lib.compareInt a b)) ∧ w' = W := fun a b W => Go.Proofs.AnyG.cmp_Compare_int Go.Proofs.Ytckcffjnffcjcaa.cmpInt a b W
  have HCN := Aside0.mk hcon
  clear hcon
  obtain ⟨W0, hW0, hBX, hBY, fb0, hz0⟩ := box2 w [.int .i64 xp, .int .i64 xa, .int .i64 xw] [.int .i64 yp, .int .i64 ya, .int .i64 yw] 38 38
  have G0 : Aside0 (GW w W0) := ⟨by rw [hW0]; exact ((GW.refl w).alloc _).alloc _⟩
  have BX := Aside0.mk hBX
  have BY := Aside0.mk hBY
  have HW := Aside0.mk hW0
  obtain ⟨c1, hc1⟩ : ∃ c, c = Go.Lib.compareInt xp yp := ⟨_, rfl⟩
  obtain ⟨c2, hc2⟩ : ∃ c, c = Go.Lib.compareInt xa ya := ⟨_, rfl⟩
  obtain ⟨c3, hc3⟩ : ∃ c, c = Go.Lib.compareInt xw yw := ⟨_, rfl⟩
  have HV : Aside0 (cmpS ⟨xp, xa, xw⟩ ⟨yp, ya, yw⟩ = or3 c1 c2 c3) := ⟨by unfold cmpS or3; simp only; rw [← hc1, ← hc2, ← hc3]⟩
  have HC1 := Aside0.mk hc1; have HC2 := Aside0.mk hc2; have HC3 := Aside0.mk hc3
  clear hW0 hBX hBY fb0 hz0 hc1 hc2 hc3
  have HSt : Aside0 (∀ W, GW W0 W → (GW W0 W ∧ W.cell? ⟨w.heap.size, 0, none⟩ = some (.int .i64 xp) ∧ W.cell? ⟨w.heap.size, 1, none⟩ = some (.int .i64 xa) ∧ W.cell? ⟨w.heap.size, 2, none⟩ = some (.int .i64 xw) ∧ W.cell? ⟨w.heap.size + 1, 0, none⟩ = some (.int .i64 yp) ∧ W.cell? ⟨w.heap.size + 1, 1, none⟩ = some (.int .i64 ya) ∧ W.cell? ⟨w.heap.size + 1, 2, none⟩ = some (.int .i64 yw))) := ⟨fun W hb => ⟨hb, (BX.out.below hb.below).c 0 _ rfl, (BX.out.below hb.below).c 1 _ rfl, (BX.out.below hb.below).c 2 _ rfl, (BY.out.below hb.below).c 0 _ rfl, (BY.out.below hb.below).c 1 _ rfl, (BY.out.below hb.below).c 2 _ rfl⟩⟩
  go_enter Try.func164, Try.ntmps164
  go_wp2_with fail
  rw [← HW.out]
  go_wp2_with fail
  go_region_held3 (fun W => GW W0 W ∧ W.cell? ⟨w.heap.size, 0, none⟩ = some (.int .i64 xp) ∧ W.cell? ⟨w.heap.size, 1, none⟩ = some (.int .i64 xa) ∧ W.cell? ⟨w.heap.size, 2, none⟩ = some (.int .i64 xw) ∧ W.cell? ⟨w.heap.size + 1, 0, none⟩ = some (.int .i64 yp) ∧ W.cell? ⟨w.heap.size + 1, 1, none⟩ = some (.int .i64 ya) ∧ W.cell? ⟨w.heap.size + 1, 2, none⟩ = some (.int .i64 yw))
    (first | (with_reducible assumption) | (with_reducible exact HSt.out _ (by with_reducible assumption)) | (with_reducible exact HSt.out _ (by repeat (first | (with_reducible assumption) | (with_reducible refine GW.alloc ?_ _) | (with_reducible refine GW.drew ?_) | (with_reducible exact GW.refl _)))))
    (first
      | (go_at_call 166; go_split_ands; (with_reducible refine Calls.mono (HCN.out xp yp _) ?_); rintro e t0 ⟨rfl, rfl⟩; rw [← HC1.out])
      | (go_at_call 166; go_split_ands; (with_reducible refine Calls.mono (HCN.out xa ya _) ?_); rintro e t0 ⟨rfl, rfl⟩; rw [← HC2.out])
      | (go_at_call 166; go_split_ands; (with_reducible refine Calls.mono (HCN.out xw yw _) ?_); rintro e t0 ⟨rfl, rfl⟩; rw [← HC3.out])
      | (go_at_call 165; go_split_ands; (with_reducible refine Calls.mono (cmpOr_any _ c1 c2 c3 _ (by first | exact Bx.new _ _ _ | exact Bx.drew (Bx.new _ _ _))) ?_); rintro e t0 ⟨rfl, rfl⟩))
  all_goals
    try go_wp2_with fail
    go_ret
    refine ⟨by rw [HV.out]; rfl, ?_⟩
    refine G0.out.trans ?_
    repeat (first | (with_reducible assumption) | (with_reducible refine GW.alloc ?_ _) | (with_reducible refine GW.drew ?_) | (with_reducible exact GW.refl _))
set_option maxRecDepth 100000 in
/-- slices.SortFunc over a row of spots of the call's own. -/
theorem sortFunc_any {W : World} {base : Nat} {ok : Nat → Prop} {v : Value} {xs : List SpotT} (h : kSpot.R 38 W base ok v xs) (hlen : xs.length ≤ 1000000) :
    Calls Try.prog 163 #[v, .func (Fn.func 164) #[] #[]] W fun e w' => e = .returned (.tuple #[]) ∧ kSpot.R 38 w' base ok v (sortS xs) ∧ Below base W w' := by
  by_cases hp : 0 < xs.length
  · obtain ⟨g, cap, rfl, hb, hg, _⟩ := Kd.R_form h hp
    have eg : ∀ args w, (callFunc 164 args).run Try.prog w = .ok (.enter 164 args) w := _root_.Go.Proofs.enters_of Try.func164 (by kernel_rfl) rfl
    have hcmp : Go.Proofs.CmpLays Try.prog 164 #[] encS 3 cmpS g 0 xs.toArray.size W := fun _ _ _ _ x y => cmpSpots_any x y _
    have hcon := Go.Proofs.AnyQ.slices_SortFunc_total Go.Proofs.Ytckcffjnffcjcaa.sortSp 3 Try.isAgg38 Try.sizeOf38 encS (fun _ => rfl) (fun x v hv => by simp [encS] at hv; rcases hv with rfl | rfl | rfl <;> rfl) cmpS swoS 164 #[] g 0 cap xs.toArray W eg hcmp (holds_spots h) hg (by simp; omega) (fun x y h1 h2 => by
      rw [ltS] at h1 h2
      by_cases e : x = y
      · exact e
      · rcases spotLt_total e with h | h
        · rw [h] at h1; cases h1
        · rw [h] at h2; cases h2)
    refine hcon.mono ?_
    rintro e w' ⟨rfl, m, os, rfl⟩
    have e1 : (xs.toArray.toList.mergeSort fun x y => !(Go.Proofs.ltOf cmpS) y x) = sortS xs := by
      unfold sortS
      simp only [ltS]
    rw [e1]
    obtain ⟨h1, h2⟩ := sorted_spots (m := m) (os := os) h (sortS_len xs) hp
    exact ⟨rfl, h1, ⟨h2.os, h2.tape, h2.output, h2.size, fun k hk => by
      by_cases e : k = g
      · omega
      · by_cases hl : k < W.heap.size
        · exact h2.block k hl (fun he => e (by injection he))
        · omega⟩⟩
  · obtain rfl : xs = [] := List.length_eq_zero_iff.1 (by omega)
    obtain ⟨A, c, rfl⟩ := Kd.R_slice h
    refine (Go.Proofs.AnyF.slices_SortFunc_none Go.Proofs.Ytckcffjnffcjcaa.sortSp A c _ W).mono ?_
    rintro e w' ⟨rfl, rfl⟩
    exact ⟨rfl, by unfold sortS; simpa using h, Below.refl _ _⟩
end Go.Proofs.Ytckcffjnffcjcaa
