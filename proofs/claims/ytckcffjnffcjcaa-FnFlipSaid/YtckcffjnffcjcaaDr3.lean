/- Contracts of l3good, driveOk: may one drive? Conditions: the net fits. -/
import Derived.Test.YtckcffjnffcjcaaDr2
import Derived.Test.YtckcffjnffcjcaaSpot2
set_option linter.unusedVariables false
set_option linter.unusedSimpArgs false
namespace Go.Proofs.Ytckcffjnffcjcaa
open Go.RowKit Go.Proofs.YtckcffjnffcjcaaW.PrintWords
def goB (n : NetT) (lies : List Int) (s : SpotT) (left : Int) : Bool := netGood n && liesB n lies && spotB n s && inB left 0 1000000
set_option maxRecDepth 100000 in
set_option maxHeartbeats 1000000 in
theorem l3good_any (n : NetT) (u : (Option Addr × Nat) × (Option Addr × Nat)) (v : Option Addr × Nat) (lies : List Int) (s : SpotT) (left : Int) (w : World) (hr : RdNet 67 w u n) (hl : Kd.C (Kd.int .i64) w v.1 lies.length lies) (hf : NetFits n) :
    Calls Try.prog 114 #[.agg #[.slice u.1.1 n.pieces.length u.1.2, .slice u.2.1 n.joints.length u.2.2], .slice v.1 lies.length v.2, .agg #[.int .i64 s.piece, .int .i64 s.at_, .int .i64 s.way], .int .i64 left] w fun e w' => e = .returned (.bool (goB n lies s left)) ∧ Below w.heap.size w w' := by
  have HR := Aside0.mk hr
  have HL := Aside0.mk hl
  have HF := Aside0.mk hf
  clear hr hl hf
  obtain ⟨⟨A0, c0⟩, ⟨A1, c1⟩⟩ := u
  obtain ⟨A2, c2⟩ := v
  simp only at HL ⊢
  obtain ⟨W0, hW0, hN, hS, fb0, hsz⟩ := box2 w [.slice A0 n.pieces.length c0, .slice A1 n.joints.length c1] [.int .i64 s.piece, .int .i64 s.at_, .int .i64 s.way] 35 38
  have fb := Aside0.mk fb0
  have HN := Aside0.mk hN
  have HS := Aside0.mk hS
  have HW := Aside0.mk hW0
  clear hW0 fb0 hN hS hsz
  cases h1 : netGood n with
  | false =>
    have HV : Aside0 (goB n lies s left = false) := ⟨by unfold goB; rw [h1]; rfl⟩
    have H1 := Aside0.mk h1
    clear h1
    go_enter Try.func114, Try.ntmps114
    go_wp2_with (first | (go_at_call 128; rw [← HW.out]; refine (l1ok_any n ((A0, c0), (A1, c1)) _ (HR.out.below fb.out) HF.out).mono ?_; rintro e w3 ⟨rfl, hb3⟩; rw [H1.out]; have B3 := Aside0.mk hb3; have D3 := Aside0.mk (below_more fb.out hb3); clear hb3; have n0 := (HN.out.below B3.out).c 0 _ rfl; have n1 := (HN.out.below B3.out).c 1 _ rfl; have m0 := (HS.out.below B3.out).c 0 _ rfl; have m1 := (HS.out.below B3.out).c 1 _ rfl; have m2 := (HS.out.below B3.out).c 2 _ rfl))
    go_ret
    exact ⟨by rw [HV.out]; first | rfl | (rw [K5.out]; rfl), D3.out⟩
  | true =>
    cases h2 : liesB n lies with
    | false =>
      have HV : Aside0 (goB n lies s left = false) := ⟨by unfold goB; rw [h1, h2]; rfl⟩
      have H1 := Aside0.mk h1
      clear h1
      have H2 := Aside0.mk h2
      clear h2
      go_enter Try.func114, Try.ntmps114
      go_wp2_with (first | (go_at_call 128; rw [← HW.out]; refine (l1ok_any n ((A0, c0), (A1, c1)) _ (HR.out.below fb.out) HF.out).mono ?_; rintro e w3 ⟨rfl, hb3⟩; rw [H1.out]; have B3 := Aside0.mk hb3; have D3 := Aside0.mk (below_more fb.out hb3); clear hb3; have n0 := (HN.out.below B3.out).c 0 _ rfl; have n1 := (HN.out.below B3.out).c 1 _ rfl; have m0 := (HS.out.below B3.out).c 0 _ rfl; have m1 := (HS.out.below B3.out).c 1 _ rfl; have m2 := (HS.out.below B3.out).c 2 _ rfl) | (go_at_call 171; refine (l3lies_any n ((A0, c0), (A1, c1)) (A2, c2) lies _ (HR.out.below D3.out) (Kd.C_below HL.out D3.out)).mono ?_; rintro e w4 ⟨rfl, hb4⟩; rw [H2.out]; have B4 := Aside0.mk (below_more B3.out hb4); have D4 := Aside0.mk (below_more D3.out hb4); clear hb4; have n0 := (HN.out.below B4.out).c 0 _ rfl; have n1 := (HN.out.below B4.out).c 1 _ rfl; have m0 := (HS.out.below B4.out).c 0 _ rfl; have m1 := (HS.out.below B4.out).c 1 _ rfl; have m2 := (HS.out.below B4.out).c 2 _ rfl))
      go_ret
      exact ⟨by rw [HV.out]; first | rfl | (rw [K5.out]; rfl), D4.out⟩
    | true =>
      cases h3 : spotB n s with
      | false =>
        have HV : Aside0 (goB n lies s left = false) := ⟨by unfold goB; rw [h1, h2, h3]; rfl⟩
        have H1 := Aside0.mk h1
        clear h1
        have H2 := Aside0.mk h2
        clear h2
        have H3 := Aside0.mk h3
        clear h3
        go_enter Try.func114, Try.ntmps114
        go_wp2_with (first | (go_at_call 128; rw [← HW.out]; refine (l1ok_any n ((A0, c0), (A1, c1)) _ (HR.out.below fb.out) HF.out).mono ?_; rintro e w3 ⟨rfl, hb3⟩; rw [H1.out]; have B3 := Aside0.mk hb3; have D3 := Aside0.mk (below_more fb.out hb3); clear hb3; have n0 := (HN.out.below B3.out).c 0 _ rfl; have n1 := (HN.out.below B3.out).c 1 _ rfl; have m0 := (HS.out.below B3.out).c 0 _ rfl; have m1 := (HS.out.below B3.out).c 1 _ rfl; have m2 := (HS.out.below B3.out).c 2 _ rfl) | (go_at_call 171; refine (l3lies_any n ((A0, c0), (A1, c1)) (A2, c2) lies _ (HR.out.below D3.out) (Kd.C_below HL.out D3.out)).mono ?_; rintro e w4 ⟨rfl, hb4⟩; rw [H2.out]; have B4 := Aside0.mk (below_more B3.out hb4); have D4 := Aside0.mk (below_more D3.out hb4); clear hb4; have n0 := (HN.out.below B4.out).c 0 _ rfl; have n1 := (HN.out.below B4.out).c 1 _ rfl; have m0 := (HS.out.below B4.out).c 0 _ rfl; have m1 := (HS.out.below B4.out).c 1 _ rfl; have m2 := (HS.out.below B4.out).c 2 _ rfl) | (go_at_call 129; refine (l3spot_any n ((A0, c0), (A1, c1)) s _ (HR.out.below D4.out)).mono ?_; rintro e w5 ⟨rfl, hb5⟩; rw [H3.out]; have D5 := Aside0.mk (below_more D4.out hb5); clear hb5))
        go_ret
        exact ⟨by rw [HV.out]; first | rfl | (rw [K5.out]; rfl), D5.out⟩
      | true =>
        cases h4 : inB left 0 1000000 with
        | false =>
          have HV : Aside0 (goB n lies s left = false) := ⟨by unfold goB; rw [h1, h2, h3, h4]; rfl⟩
          have H1 := Aside0.mk h1
          clear h1
          have H2 := Aside0.mk h2
          clear h2
          have H3 := Aside0.mk h3
          clear h3
          have H4 := Aside0.mk h4
          clear h4
          go_enter Try.func114, Try.ntmps114
          go_wp2_with (first | (go_at_call 128; rw [← HW.out]; refine (l1ok_any n ((A0, c0), (A1, c1)) _ (HR.out.below fb.out) HF.out).mono ?_; rintro e w3 ⟨rfl, hb3⟩; rw [H1.out]; have B3 := Aside0.mk hb3; have D3 := Aside0.mk (below_more fb.out hb3); clear hb3; have n0 := (HN.out.below B3.out).c 0 _ rfl; have n1 := (HN.out.below B3.out).c 1 _ rfl; have m0 := (HS.out.below B3.out).c 0 _ rfl; have m1 := (HS.out.below B3.out).c 1 _ rfl; have m2 := (HS.out.below B3.out).c 2 _ rfl) | (go_at_call 171; refine (l3lies_any n ((A0, c0), (A1, c1)) (A2, c2) lies _ (HR.out.below D3.out) (Kd.C_below HL.out D3.out)).mono ?_; rintro e w4 ⟨rfl, hb4⟩; rw [H2.out]; have B4 := Aside0.mk (below_more B3.out hb4); have D4 := Aside0.mk (below_more D3.out hb4); clear hb4; have n0 := (HN.out.below B4.out).c 0 _ rfl; have n1 := (HN.out.below B4.out).c 1 _ rfl; have m0 := (HS.out.below B4.out).c 0 _ rfl; have m1 := (HS.out.below B4.out).c 1 _ rfl; have m2 := (HS.out.below B4.out).c 2 _ rfl) | (go_at_call 129; refine (l3spot_any n ((A0, c0), (A1, c1)) s _ (HR.out.below D4.out)).mono ?_; rintro e w5 ⟨rfl, hb5⟩; rw [H3.out]; have D5 := Aside0.mk (below_more D4.out hb5); clear hb5) | (go_at_call 119; refine (l1in_any _ _ _ _).mono ?_; rintro e w6 ⟨rfl, rfl⟩; rw [H4.out]))
          go_ret
          exact ⟨by rw [HV.out]; first | rfl | (rw [K5.out]; rfl), D5.out⟩
        | true =>
          have HV : Aside0 (goB n lies s left = true) := ⟨by unfold goB; rw [h1, h2, h3, h4]; rfl⟩
          have H1 := Aside0.mk h1
          clear h1
          have H2 := Aside0.mk h2
          clear h2
          have H3 := Aside0.mk h3
          clear h3
          have H4 := Aside0.mk h4
          clear h4
          go_enter Try.func114, Try.ntmps114
          go_wp2_with (first | (go_at_call 128; rw [← HW.out]; refine (l1ok_any n ((A0, c0), (A1, c1)) _ (HR.out.below fb.out) HF.out).mono ?_; rintro e w3 ⟨rfl, hb3⟩; rw [H1.out]; have B3 := Aside0.mk hb3; have D3 := Aside0.mk (below_more fb.out hb3); clear hb3; have n0 := (HN.out.below B3.out).c 0 _ rfl; have n1 := (HN.out.below B3.out).c 1 _ rfl; have m0 := (HS.out.below B3.out).c 0 _ rfl; have m1 := (HS.out.below B3.out).c 1 _ rfl; have m2 := (HS.out.below B3.out).c 2 _ rfl) | (go_at_call 171; refine (l3lies_any n ((A0, c0), (A1, c1)) (A2, c2) lies _ (HR.out.below D3.out) (Kd.C_below HL.out D3.out)).mono ?_; rintro e w4 ⟨rfl, hb4⟩; rw [H2.out]; have B4 := Aside0.mk (below_more B3.out hb4); have D4 := Aside0.mk (below_more D3.out hb4); clear hb4; have n0 := (HN.out.below B4.out).c 0 _ rfl; have n1 := (HN.out.below B4.out).c 1 _ rfl; have m0 := (HS.out.below B4.out).c 0 _ rfl; have m1 := (HS.out.below B4.out).c 1 _ rfl; have m2 := (HS.out.below B4.out).c 2 _ rfl) | (go_at_call 129; refine (l3spot_any n ((A0, c0), (A1, c1)) s _ (HR.out.below D4.out)).mono ?_; rintro e w5 ⟨rfl, hb5⟩; rw [H3.out]; have D5 := Aside0.mk (below_more D4.out hb5); clear hb5) | (go_at_call 119; refine (l1in_any _ _ _ _).mono ?_; rintro e w6 ⟨rfl, rfl⟩; rw [H4.out]))
          go_ret
          exact ⟨by rw [HV.out]; first | rfl | (rw [K5.out]; rfl), D5.out⟩
set_option maxRecDepth 100000 in
set_option maxHeartbeats 1000000 in
theorem driveOk_any (n : NetT) (u : (Option Addr × Nat) × (Option Addr × Nat)) (v : Option Addr × Nat) (lies : List Int) (s : SpotT) (left : Int) (w : World) (hr : RdNet 67 w u n) (hl : Kd.C (Kd.int .i64) w v.1 lies.length lies) (hf : NetFits n) :
    Calls Try.prog 111 #[.agg #[.slice u.1.1 n.pieces.length u.1.2, .slice u.2.1 n.joints.length u.2.2], .slice v.1 lies.length v.2, .agg #[.int .i64 s.piece, .int .i64 s.at_, .int .i64 s.way], .int .i64 left] w fun e w' => e = .returned (.bool (goB n lies s left)) ∧ Below w.heap.size w w' := by
  have HR := Aside0.mk hr
  have HL := Aside0.mk hl
  have HF := Aside0.mk hf
  clear hr hl hf
  obtain ⟨⟨A0, c0⟩, ⟨A1, c1⟩⟩ := u
  obtain ⟨A2, c2⟩ := v
  simp only at HL ⊢
  obtain ⟨W0, hW0, hN, hS, fb0, hsz⟩ := box2 w [.slice A0 n.pieces.length c0, .slice A1 n.joints.length c1] [.int .i64 s.piece, .int .i64 s.at_, .int .i64 s.way] 35 38
  have fb := Aside0.mk fb0
  have HN := Aside0.mk hN
  have HS := Aside0.mk hS
  have HW := Aside0.mk hW0
  clear hW0 fb0 hN hS hsz
  cases h1 : netGood n with
  | false =>
    have HV : Aside0 (goB n lies s left = false) := ⟨by unfold goB; rw [h1]; rfl⟩
    have H1 := Aside0.mk h1
    clear h1
    go_enter Try.func111, Try.ntmps111
    go_wp2_with (first | (go_at_call 130; rw [← HW.out]; refine (good_any n ((A0, c0), (A1, c1)) _ (HR.out.below fb.out) HF.out).mono ?_; rintro e w3 ⟨rfl, hb3⟩; rw [H1.out]; have B3 := Aside0.mk hb3; have D3 := Aside0.mk (below_more fb.out hb3); clear hb3; have n0 := (HN.out.below B3.out).c 0 _ rfl; have n1 := (HN.out.below B3.out).c 1 _ rfl; have m0 := (HS.out.below B3.out).c 0 _ rfl; have m1 := (HS.out.below B3.out).c 1 _ rfl; have m2 := (HS.out.below B3.out).c 2 _ rfl))
    go_ret
    exact ⟨by rw [HV.out]; first | rfl | (rw [K5.out]; rfl), D3.out⟩
  | true =>
    cases h2 : liesB n lies with
    | false =>
      have HV : Aside0 (goB n lies s left = false) := ⟨by unfold goB; rw [h1, h2]; rfl⟩
      have H1 := Aside0.mk h1
      clear h1
      have H2 := Aside0.mk h2
      clear h2
      go_enter Try.func111, Try.ntmps111
      go_wp2_with (first | (go_at_call 130; rw [← HW.out]; refine (good_any n ((A0, c0), (A1, c1)) _ (HR.out.below fb.out) HF.out).mono ?_; rintro e w3 ⟨rfl, hb3⟩; rw [H1.out]; have B3 := Aside0.mk hb3; have D3 := Aside0.mk (below_more fb.out hb3); clear hb3; have n0 := (HN.out.below B3.out).c 0 _ rfl; have n1 := (HN.out.below B3.out).c 1 _ rfl; have m0 := (HS.out.below B3.out).c 0 _ rfl; have m1 := (HS.out.below B3.out).c 1 _ rfl; have m2 := (HS.out.below B3.out).c 2 _ rfl) | (go_at_call 169; refine (liesOk_any n ((A0, c0), (A1, c1)) (A2, c2) lies _ (HR.out.below D3.out) (Kd.C_below HL.out D3.out)).mono ?_; rintro e w4 ⟨rfl, hb4⟩; rw [H2.out]; have B4 := Aside0.mk (below_more B3.out hb4); have D4 := Aside0.mk (below_more D3.out hb4); clear hb4; have n0 := (HN.out.below B4.out).c 0 _ rfl; have n1 := (HN.out.below B4.out).c 1 _ rfl; have m0 := (HS.out.below B4.out).c 0 _ rfl; have m1 := (HS.out.below B4.out).c 1 _ rfl; have m2 := (HS.out.below B4.out).c 2 _ rfl))
      go_ret
      exact ⟨by rw [HV.out]; first | rfl | (rw [K5.out]; rfl), D4.out⟩
    | true =>
      cases h3 : spotB n s with
      | false =>
        have HV : Aside0 (goB n lies s left = false) := ⟨by unfold goB; rw [h1, h2, h3]; rfl⟩
        have H1 := Aside0.mk h1
        clear h1
        have H2 := Aside0.mk h2
        clear h2
        have H3 := Aside0.mk h3
        clear h3
        go_enter Try.func111, Try.ntmps111
        go_wp2_with (first | (go_at_call 130; rw [← HW.out]; refine (good_any n ((A0, c0), (A1, c1)) _ (HR.out.below fb.out) HF.out).mono ?_; rintro e w3 ⟨rfl, hb3⟩; rw [H1.out]; have B3 := Aside0.mk hb3; have D3 := Aside0.mk (below_more fb.out hb3); clear hb3; have n0 := (HN.out.below B3.out).c 0 _ rfl; have n1 := (HN.out.below B3.out).c 1 _ rfl; have m0 := (HS.out.below B3.out).c 0 _ rfl; have m1 := (HS.out.below B3.out).c 1 _ rfl; have m2 := (HS.out.below B3.out).c 2 _ rfl) | (go_at_call 169; refine (liesOk_any n ((A0, c0), (A1, c1)) (A2, c2) lies _ (HR.out.below D3.out) (Kd.C_below HL.out D3.out)).mono ?_; rintro e w4 ⟨rfl, hb4⟩; rw [H2.out]; have B4 := Aside0.mk (below_more B3.out hb4); have D4 := Aside0.mk (below_more D3.out hb4); clear hb4; have n0 := (HN.out.below B4.out).c 0 _ rfl; have n1 := (HN.out.below B4.out).c 1 _ rfl; have m0 := (HS.out.below B4.out).c 0 _ rfl; have m1 := (HS.out.below B4.out).c 1 _ rfl; have m2 := (HS.out.below B4.out).c 2 _ rfl) | (go_at_call 131; refine (spotOk_any n ((A0, c0), (A1, c1)) s _ (HR.out.below D4.out)).mono ?_; rintro e w5 ⟨rfl, hb5⟩; rw [H3.out]; have D5 := Aside0.mk (below_more D4.out hb5); clear hb5))
        go_ret
        exact ⟨by rw [HV.out]; first | rfl | (rw [K5.out]; rfl), D5.out⟩
      | true =>
        by_cases k1 : left < 0
        ·
          have h4 : inB left 0 1000000 = false := inB_false.2 (by omega)
          have HV : Aside0 (goB n lies s left = false) := ⟨by unfold goB; rw [h1, h2, h3, h4]; rfl⟩
          have H1 := Aside0.mk h1
          clear h1
          have H2 := Aside0.mk h2
          clear h2
          have H3 := Aside0.mk h3
          clear h3
          have H4 := Aside0.mk h4
          clear h4
          go_enter Try.func111, Try.ntmps111
          go_wp2_with (first | (go_at_call 130; rw [← HW.out]; refine (good_any n ((A0, c0), (A1, c1)) _ (HR.out.below fb.out) HF.out).mono ?_; rintro e w3 ⟨rfl, hb3⟩; rw [H1.out]; have B3 := Aside0.mk hb3; have D3 := Aside0.mk (below_more fb.out hb3); clear hb3; have n0 := (HN.out.below B3.out).c 0 _ rfl; have n1 := (HN.out.below B3.out).c 1 _ rfl; have m0 := (HS.out.below B3.out).c 0 _ rfl; have m1 := (HS.out.below B3.out).c 1 _ rfl; have m2 := (HS.out.below B3.out).c 2 _ rfl) | (go_at_call 169; refine (liesOk_any n ((A0, c0), (A1, c1)) (A2, c2) lies _ (HR.out.below D3.out) (Kd.C_below HL.out D3.out)).mono ?_; rintro e w4 ⟨rfl, hb4⟩; rw [H2.out]; have B4 := Aside0.mk (below_more B3.out hb4); have D4 := Aside0.mk (below_more D3.out hb4); clear hb4; have n0 := (HN.out.below B4.out).c 0 _ rfl; have n1 := (HN.out.below B4.out).c 1 _ rfl; have m0 := (HS.out.below B4.out).c 0 _ rfl; have m1 := (HS.out.below B4.out).c 1 _ rfl; have m2 := (HS.out.below B4.out).c 2 _ rfl) | (go_at_call 131; refine (spotOk_any n ((A0, c0), (A1, c1)) s _ (HR.out.below D4.out)).mono ?_; rintro e w5 ⟨rfl, hb5⟩; rw [H3.out]; have D5 := Aside0.mk (below_more D4.out hb5); clear hb5))
          go_ret
          exact ⟨by rw [HV.out]; first | rfl | (rw [K5.out]; rfl), D5.out⟩
        by_cases k2 : 1000000 < left
        ·
          have h4 : inB left 0 1000000 = false := inB_false.2 (by omega)
          have K5 : Aside0 (decide (left ≤ 1000000) = false) := ⟨by simp; omega⟩
          have HV : Aside0 (goB n lies s left = false) := ⟨by unfold goB; rw [h1, h2, h3, h4]; rfl⟩
          have H1 := Aside0.mk h1
          clear h1
          have H2 := Aside0.mk h2
          clear h2
          have H3 := Aside0.mk h3
          clear h3
          have H4 := Aside0.mk h4
          clear h4
          go_enter Try.func111, Try.ntmps111
          go_wp2_with (first | (go_at_call 130; rw [← HW.out]; refine (good_any n ((A0, c0), (A1, c1)) _ (HR.out.below fb.out) HF.out).mono ?_; rintro e w3 ⟨rfl, hb3⟩; rw [H1.out]; have B3 := Aside0.mk hb3; have D3 := Aside0.mk (below_more fb.out hb3); clear hb3; have n0 := (HN.out.below B3.out).c 0 _ rfl; have n1 := (HN.out.below B3.out).c 1 _ rfl; have m0 := (HS.out.below B3.out).c 0 _ rfl; have m1 := (HS.out.below B3.out).c 1 _ rfl; have m2 := (HS.out.below B3.out).c 2 _ rfl) | (go_at_call 169; refine (liesOk_any n ((A0, c0), (A1, c1)) (A2, c2) lies _ (HR.out.below D3.out) (Kd.C_below HL.out D3.out)).mono ?_; rintro e w4 ⟨rfl, hb4⟩; rw [H2.out]; have B4 := Aside0.mk (below_more B3.out hb4); have D4 := Aside0.mk (below_more D3.out hb4); clear hb4; have n0 := (HN.out.below B4.out).c 0 _ rfl; have n1 := (HN.out.below B4.out).c 1 _ rfl; have m0 := (HS.out.below B4.out).c 0 _ rfl; have m1 := (HS.out.below B4.out).c 1 _ rfl; have m2 := (HS.out.below B4.out).c 2 _ rfl) | (go_at_call 131; refine (spotOk_any n ((A0, c0), (A1, c1)) s _ (HR.out.below D4.out)).mono ?_; rintro e w5 ⟨rfl, hb5⟩; rw [H3.out]; have D5 := Aside0.mk (below_more D4.out hb5); clear hb5))
          go_ret
          exact ⟨by rw [HV.out]; first | rfl | (rw [K5.out]; rfl), D5.out⟩
        have h4 : inB left 0 1000000 = true := inB_true.2 (by omega)
        have k3 : 0 ≤ left := by omega
        have k4 : left ≤ 1000000 := by omega
        have HV : Aside0 (goB n lies s left = true) := ⟨by unfold goB; rw [h1, h2, h3, h4]; rfl⟩
        have H1 := Aside0.mk h1
        clear h1
        have H2 := Aside0.mk h2
        clear h2
        have H3 := Aside0.mk h3
        clear h3
        have H4 := Aside0.mk h4
        clear h4
        go_enter Try.func111, Try.ntmps111
        go_wp2_with (first | (go_at_call 130; rw [← HW.out]; refine (good_any n ((A0, c0), (A1, c1)) _ (HR.out.below fb.out) HF.out).mono ?_; rintro e w3 ⟨rfl, hb3⟩; rw [H1.out]; have B3 := Aside0.mk hb3; have D3 := Aside0.mk (below_more fb.out hb3); clear hb3; have n0 := (HN.out.below B3.out).c 0 _ rfl; have n1 := (HN.out.below B3.out).c 1 _ rfl; have m0 := (HS.out.below B3.out).c 0 _ rfl; have m1 := (HS.out.below B3.out).c 1 _ rfl; have m2 := (HS.out.below B3.out).c 2 _ rfl) | (go_at_call 169; refine (liesOk_any n ((A0, c0), (A1, c1)) (A2, c2) lies _ (HR.out.below D3.out) (Kd.C_below HL.out D3.out)).mono ?_; rintro e w4 ⟨rfl, hb4⟩; rw [H2.out]; have B4 := Aside0.mk (below_more B3.out hb4); have D4 := Aside0.mk (below_more D3.out hb4); clear hb4; have n0 := (HN.out.below B4.out).c 0 _ rfl; have n1 := (HN.out.below B4.out).c 1 _ rfl; have m0 := (HS.out.below B4.out).c 0 _ rfl; have m1 := (HS.out.below B4.out).c 1 _ rfl; have m2 := (HS.out.below B4.out).c 2 _ rfl) | (go_at_call 131; refine (spotOk_any n ((A0, c0), (A1, c1)) s _ (HR.out.below D4.out)).mono ?_; rintro e w5 ⟨rfl, hb5⟩; rw [H3.out]; have D5 := Aside0.mk (below_more D4.out hb5); clear hb5))
        go_ret
        exact ⟨by rw [HV.out]; first | rfl | (rw [K5.out]; rfl), D5.out⟩
end Go.Proofs.Ytckcffjnffcjcaa
