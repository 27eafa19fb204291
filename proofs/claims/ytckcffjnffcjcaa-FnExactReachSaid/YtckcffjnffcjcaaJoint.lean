/- Contracts of JointAt and Turn, of the reference and of the program. Conditions: the net fits. -/
import Derived.Test.YtckcffjnffcjcaaAt
set_option linter.unusedVariables false
set_option linter.unusedSimpArgs false
namespace Go.Proofs.Ytckcffjnffcjcaa
open Go.RowKit Go.Proofs.YtckcffjnffcjcaaW.PrintWords
def jointAtV (n : NetT) (e : EndT) : Int := if (netGood n && endB n e) = true then (atEnd n e).1 else -1
theorem atEnd_off {n : NetT} (h : netGood n = true) {e : EndT} (he : endB n e = false) : atEnd n e = (-1, -1) := by
  rcases atEnd_cases n e with ⟨h1, _⟩ | ⟨i, q, _, hi, hq, h2⟩
  · exact h1
  · have := ((Good.of h).joint (getD_mem n.joints i hi)).2.2.2 _ (getD_mem _ q hq)
    rw [h2, he] at this
    cases this
theorem jointAt_bad {n : NetT} {e : EndT} (h : netGood n = false) : jointAtV n e = -1 := by unfold jointAtV; rw [h]; rfl
theorem jointAt_off {n : NetT} {e : EndT} (h : endB n e = false) : jointAtV n e = -1 := by unfold jointAtV; rw [h, Bool.and_false]; rfl
theorem jointAt_good {n : NetT} {e : EndT} (h : netGood n = true) : jointAtV n e = (atEnd n e).1 := by
  unfold jointAtV
  cases he : endB n e with
  | true => rw [h]; rfl
  | false => rw [h, atEnd_off h he]; rfl
set_option maxRecDepth 100000 in
theorem specJointAt_any (n : NetT) (u : (Option Addr × Nat) × (Option Addr × Nat)) (x : EndT) (w : World) (hr : RdNet 67 w u n) (hf : NetFits n) :
    Calls Try.prog 50 #[.agg #[.slice u.1.1 n.pieces.length u.1.2, .slice u.2.1 n.joints.length u.2.2], .agg #[.int .i64 x.piece, .int .i64 x.side]] w
      fun e w' => e = .returned (.int .i64 (jointAtV n x)) ∧ Below w.heap.size w w' := by
  have HR := Aside0.mk hr
  have HF := Aside0.mk hf
  have hpm := hr.1.1.2.1
  clear hr hf
  obtain ⟨⟨A0, c0⟩, ⟨A1, c1⟩⟩ := u
  obtain ⟨W0, hW0⟩ : ∃ W0 : World, W0 = (w.alloc (.cells #[.slice A0 n.pieces.length c0, .slice A1 n.joints.length c1] 35)).alloc (.cells #[.int .i64 x.piece, .int .i64 x.side] 67) := ⟨_, rfl⟩
  have HN : Aside0 (Bx W0 w.heap.size [.slice A0 n.pieces.length c0, .slice A1 n.joints.length c1]) := ⟨by rw [hW0]; exact (Bx.new w [.slice A0 n.pieces.length c0, .slice A1 n.joints.length c1] 35).alloc _⟩
  have HS : Aside0 (Bx W0 (w.heap.size + 1) [.int .i64 x.piece, .int .i64 x.side]) := ⟨by
    have := Bx.new (w.alloc (.cells #[.slice A0 n.pieces.length c0, .slice A1 n.joints.length c1] 35)) [.int .i64 x.piece, .int .i64 x.side] 67
    rw [hW0]; simpa using this⟩
  have fb := Aside0.mk (show Below w.heap.size w W0 by rw [hW0]; exact below_two _ _ _)
  have HW := Aside0.mk hW0
  clear hW0
  cases hg : netGood n with
  | false =>
    have HG := Aside0.mk (jointAt_bad (e := x) hg)
    have HG2 := Aside0.mk hg
    clear hg
    go_enter Try.func50, Try.ntmps50
    go_wp2_with (go_at_call 128; rw [← HW.out]; refine (l1ok_any n ((A0, c0), (A1, c1)) _ (HR.out.below fb.out) HF.out).mono ?_; rintro e w3 ⟨rfl, hb3⟩; rw [HG2.out]; have HN3 := Aside0.mk (HN.out.below hb3); have HS3 := Aside0.mk (HS.out.below hb3); have B3 := Aside0.mk (below_more fb.out hb3); clear hb3)
    go_ret
    exact ⟨by rw [HG.out]; rfl, B3.out⟩
  | true =>
    have HG2 := Aside0.mk hg
    cases he : endB n x with
    | false =>
      have HG := Aside0.mk (jointAt_off (n := n) he)
      have HE := Aside0.mk he
      clear hg he
      go_enter Try.func50, Try.ntmps50
      go_wp2_with (go_at_call 128; rw [← HW.out]; refine (l1ok_any n ((A0, c0), (A1, c1)) _ (HR.out.below fb.out) HF.out).mono ?_; rintro e w3 ⟨rfl, hb3⟩; rw [HG2.out]; have HN3 := Aside0.mk (HN.out.below hb3); have HS3 := Aside0.mk (HS.out.below hb3); have B3 := Aside0.mk (below_more fb.out hb3); clear hb3; have n0 := HN3.out.c 0 _ rfl; have n1 := HN3.out.c 1 _ rfl; have m0 := HS3.out.c 0 _ rfl; have m1 := HS3.out.c 1 _ rfl)
      refine (l1end_any n ((A0, c0), (A1, c1)) x _ hpm).mono ?_
      rintro e w4 ⟨rfl, hb4⟩
      rw [HE.out]
      have B4 := Aside0.mk (below_more B3.out hb4)
      clear n0 n1 m0 m1 hb4
      go_wp2
      go_ret
      exact ⟨by rw [HG.out]; rfl, B4.out⟩
    | true =>
      have HG := Aside0.mk (jointAt_good (e := x) hg)
      have HE := Aside0.mk he
      clear hg he
      go_enter Try.func50, Try.ntmps50
      go_wp2_with (go_at_call 128; rw [← HW.out]; refine (l1ok_any n ((A0, c0), (A1, c1)) _ (HR.out.below fb.out) HF.out).mono ?_; rintro e w3 ⟨rfl, hb3⟩; rw [HG2.out]; have HN3 := Aside0.mk (HN.out.below hb3); have HS3 := Aside0.mk (HS.out.below hb3); have B3 := Aside0.mk (below_more fb.out hb3); clear hb3; have n0 := HN3.out.c 0 _ rfl; have n1 := HN3.out.c 1 _ rfl; have m0 := HS3.out.c 0 _ rfl; have m1 := HS3.out.c 1 _ rfl)
      refine (l1end_any n ((A0, c0), (A1, c1)) x _ hpm).mono ?_
      rintro e w4 ⟨rfl, hb4⟩
      rw [HE.out]
      have HN4 := Aside0.mk (HN3.out.below hb4); have HS4 := Aside0.mk (HS3.out.below hb4); have B4 := Aside0.mk (below_more B3.out hb4); clear hb4
      clear n0 n1 m0 m1
      have n0 := HN4.out.c 0 _ rfl
      have n1 := HN4.out.c 1 _ rfl
      have m0 := HS4.out.c 0 _ rfl
      have m1 := HS4.out.c 1 _ rfl
      go_wp2_with fail
      refine (l1at_any n ((A0, c0), (A1, c1)) x _ (HR.out.below B4.out)).mono ?_
      rintro e w5 ⟨rfl, hb5⟩
      have B5 := Aside0.mk (below_more B4.out hb5)
      clear n0 n1 m0 m1 hb5
      go_wp2
      go_ret
      exact ⟨by rw [HG.out]; rfl, B5.out⟩
set_option maxRecDepth 100000 in
theorem implJointAt_any (n : NetT) (u : (Option Addr × Nat) × (Option Addr × Nat)) (x : EndT) (w : World) (hr : RdNet 67 w u n) (hf : NetFits n) :
    Calls Try.prog 52 #[.agg #[.slice u.1.1 n.pieces.length u.1.2, .slice u.2.1 n.joints.length u.2.2], .agg #[.int .i64 x.piece, .int .i64 x.side]] w
      fun e w' => e = .returned (.int .i64 (jointAtV n x)) ∧ Below w.heap.size w w' := by
  have HR := Aside0.mk hr
  have HF := Aside0.mk hf
  have hpm := hr.1.1.2.1
  clear hr hf
  obtain ⟨⟨A0, c0⟩, ⟨A1, c1⟩⟩ := u
  obtain ⟨W0, hW0⟩ : ∃ W0 : World, W0 = (w.alloc (.cells #[.slice A0 n.pieces.length c0, .slice A1 n.joints.length c1] 35)).alloc (.cells #[.int .i64 x.piece, .int .i64 x.side] 67) := ⟨_, rfl⟩
  have HN : Aside0 (Bx W0 w.heap.size [.slice A0 n.pieces.length c0, .slice A1 n.joints.length c1]) := ⟨by rw [hW0]; exact (Bx.new w [.slice A0 n.pieces.length c0, .slice A1 n.joints.length c1] 35).alloc _⟩
  have HS : Aside0 (Bx W0 (w.heap.size + 1) [.int .i64 x.piece, .int .i64 x.side]) := ⟨by
    have := Bx.new (w.alloc (.cells #[.slice A0 n.pieces.length c0, .slice A1 n.joints.length c1] 35)) [.int .i64 x.piece, .int .i64 x.side] 67
    rw [hW0]; simpa using this⟩
  have fb := Aside0.mk (show Below w.heap.size w W0 by rw [hW0]; exact below_two _ _ _)
  have HW := Aside0.mk hW0
  clear hW0
  cases hg : netGood n with
  | false =>
    have HG := Aside0.mk (jointAt_bad (e := x) hg)
    have HG2 := Aside0.mk hg
    clear hg
    go_enter Try.func52, Try.ntmps52
    go_wp2_with (go_at_call 130; rw [← HW.out]; refine (good_any n ((A0, c0), (A1, c1)) _ (HR.out.below fb.out) HF.out).mono ?_; rintro e w3 ⟨rfl, hb3⟩; rw [HG2.out]; have HN3 := Aside0.mk (HN.out.below hb3); have HS3 := Aside0.mk (HS.out.below hb3); have B3 := Aside0.mk (below_more fb.out hb3); clear hb3)
    go_ret
    exact ⟨by rw [HG.out]; rfl, B3.out⟩
  | true =>
    have HG2 := Aside0.mk hg
    have HG := Aside0.mk (jointAt_good (e := x) hg)
    clear hg
    go_enter Try.func52, Try.ntmps52
    go_wp2_with (go_at_call 130; rw [← HW.out]; refine (good_any n ((A0, c0), (A1, c1)) _ (HR.out.below fb.out) HF.out).mono ?_; rintro e w3 ⟨rfl, hb3⟩; rw [HG2.out]; have HN3 := Aside0.mk (HN.out.below hb3); have HS3 := Aside0.mk (HS.out.below hb3); have B3 := Aside0.mk (below_more fb.out hb3); clear hb3; have n0 := HN3.out.c 0 _ rfl; have n1 := HN3.out.c 1 _ rfl; have m0 := HS3.out.c 0 _ rfl; have m1 := HS3.out.c 1 _ rfl)
    refine (at_any n ((A0, c0), (A1, c1)) x _ (HR.out.below B3.out)).mono ?_
    rintro e w5 ⟨rfl, hb5⟩
    have B5 := Aside0.mk (below_more B3.out hb5)
    clear n0 n1 m0 m1 hb5
    go_wp2
    go_ret
    exact ⟨by rw [HG.out]; rfl, B5.out⟩
def turnS (s : SpotT) : SpotT := ⟨s.piece, s.at_, -s.way⟩
def turnV (n : NetT) (s : SpotT) : SpotT := if spotOkB n s = true then turnS s else ⟨0, 0, 0⟩
theorem spotB_way {n : NetT} {s : SpotT} (h : spotB n s = true) : s.way = 1 ∨ s.way = -1 := by
  unfold spotB at h
  simp only [Bool.and_eq_true, Bool.or_eq_true, beq_iff_eq] at h
  exact h.1.2
set_option maxRecDepth 100000 in
theorem specTurn_any (n : NetT) (u : (Option Addr × Nat) × (Option Addr × Nat)) (s : SpotT) (w : World) (hr : RdNet 67 w u n) (hf : NetFits n) :
    Calls Try.prog 53 #[.agg #[.slice u.1.1 n.pieces.length u.1.2, .slice u.2.1 n.joints.length u.2.2], .agg #[.int .i64 s.piece, .int .i64 s.at_, .int .i64 s.way]] w
      fun e w' => e = .returned (.agg #[.int .i64 (turnV n s).piece, .int .i64 (turnV n s).at_, .int .i64 (turnV n s).way]) ∧ Below w.heap.size w w' := by
  have HR := Aside0.mk hr
  have HF := Aside0.mk hf
  clear hr hf
  obtain ⟨⟨A0, c0⟩, ⟨A1, c1⟩⟩ := u
  obtain ⟨W0, hW0⟩ : ∃ W0 : World, W0 = ((w.alloc (.cells #[.slice A0 n.pieces.length c0, .slice A1 n.joints.length c1] 35)).alloc (.cells #[.int .i64 s.piece, .int .i64 s.at_, .int .i64 s.way] 38)).alloc (.cells #[.int .i64 0, .int .i64 0, .int .i64 0] 38) := ⟨_, rfl⟩
  have HN : Aside0 (Bx W0 w.heap.size [.slice A0 n.pieces.length c0, .slice A1 n.joints.length c1]) := ⟨by rw [hW0]; exact ((Bx.new w [.slice A0 n.pieces.length c0, .slice A1 n.joints.length c1] 35).alloc _).alloc _⟩
  have HS : Aside0 (Bx W0 (w.heap.size + 1) [.int .i64 s.piece, .int .i64 s.at_, .int .i64 s.way]) := ⟨by
    have := (Bx.new (w.alloc (.cells #[.slice A0 n.pieces.length c0, .slice A1 n.joints.length c1] 35)) [.int .i64 s.piece, .int .i64 s.at_, .int .i64 s.way] 38).alloc (.cells #[.int .i64 0, .int .i64 0, .int .i64 0] 38)
    rw [hW0]; simpa using this⟩
  have HX : Aside0 (Bx W0 (w.heap.size + 2) [.int .i64 0, .int .i64 0, .int .i64 0]) := ⟨by
    have := Bx.new ((w.alloc (.cells #[.slice A0 n.pieces.length c0, .slice A1 n.joints.length c1] 35)).alloc (.cells #[.int .i64 s.piece, .int .i64 s.at_, .int .i64 s.way] 38)) [.int .i64 0, .int .i64 0, .int .i64 0] 38
    rw [hW0]; simpa using this⟩
  have fb := Aside0.mk (show Below w.heap.size w W0 by rw [hW0]; exact below_three _ _ _ _)
  have HW := Aside0.mk hW0
  clear hW0
  cases hg : spotOkB n s with
  | false =>
    have HG := Aside0.mk (show turnV n s = ⟨0, 0, 0⟩ from if_neg (by rw [hg]; simp))
    have HG2 := Aside0.mk hg
    clear hg
    go_enter Try.func53, Try.ntmps53
    go_wp2_with (go_at_call 47; rw [← HW.out]; refine (specSpotOk_any n ((A0, c0), (A1, c1)) s _ (HR.out.below fb.out) HF.out).mono ?_; rintro e w3 ⟨rfl, hb3⟩; rw [HG2.out]; have HX3 := Aside0.mk (HX.out.below hb3); have B3 := Aside0.mk (below_more fb.out hb3); clear hb3; have x0 := HX3.out.c 0 _ rfl; have x1 := HX3.out.c 1 _ rfl; have x2 := HX3.out.c 2 _ rfl; have y0 := HX3.out.f 0; have y1 := HX3.out.f 1; have y2 := HX3.out.f 2; have asz := HX3.out.lt)
    refine bodyPost_ret (v := .agg #[.int .i64 0, .int .i64 0, .int .i64 0]) (by simp [results, Try.results53, go_sem, x0, x1, x2, asz]) rfl ⟨by rw [HG.out], ?_⟩
    repeat (first | (with_reducible exact B3.out) | (with_reducible refine below_set ?_ (by omega)) | (with_reducible refine below_alloc ?_ _))
  | true =>
    have hw : s.way = 1 ∨ s.way = -1 := spotB_way (n := n) (by unfold spotOkB at hg; simp only [Bool.and_eq_true] at hg; exact hg.2)
    have HG := Aside0.mk (show turnV n s = ⟨s.piece, s.at_, -s.way⟩ from if_pos hg)
    have HG2 := Aside0.mk hg
    have hneg : IntKind.i64.wrap (-s.way) = -s.way := wrap64 (by omega) (by omega)
    clear hg
    go_enter Try.func53, Try.ntmps53
    go_wp2_with (go_at_call 47; rw [← HW.out]; refine (specSpotOk_any n ((A0, c0), (A1, c1)) s _ (HR.out.below fb.out) HF.out).mono ?_; rintro e w3 ⟨rfl, hb3⟩; rw [HG2.out]; have HX3 := Aside0.mk (HX.out.below hb3); have HS3 := Aside0.mk (HS.out.below hb3); have B3 := Aside0.mk (below_more fb.out hb3); clear hb3; have x0 := HX3.out.c 0 _ rfl; have x1 := HX3.out.c 1 _ rfl; have x2 := HX3.out.c 2 _ rfl; have y0 := HX3.out.f 0; have y1 := HX3.out.f 1; have y2 := HX3.out.f 2; have asz := HX3.out.lt; have m0 := HS3.out.c 0 _ rfl; have m1 := HS3.out.c 1 _ rfl; have m2 := HS3.out.c 2 _ rfl; have k0 := HS3.out.f 0; have k1 := HS3.out.f 1; have k2 := HS3.out.f 2; have as1 := HS3.out.lt)
    refine bodyPost_ret (v := .agg #[.int .i64 s.piece, .int .i64 s.at_, .int .i64 (-s.way)]) (by simp [results, Try.results53, go_sem, x0, x1, x2, asz]) rfl ⟨by rw [HG.out], ?_⟩
    repeat (first | (with_reducible exact B3.out) | (with_reducible refine below_set ?_ (by omega)) | (with_reducible refine below_alloc ?_ _))
set_option maxRecDepth 100000 in
theorem implTurn_any (n : NetT) (u : (Option Addr × Nat) × (Option Addr × Nat)) (s : SpotT) (w : World) (hr : RdNet 67 w u n) (hf : NetFits n) :
    Calls Try.prog 54 #[.agg #[.slice u.1.1 n.pieces.length u.1.2, .slice u.2.1 n.joints.length u.2.2], .agg #[.int .i64 s.piece, .int .i64 s.at_, .int .i64 s.way]] w
      fun e w' => e = .returned (.agg #[.int .i64 (turnV n s).piece, .int .i64 (turnV n s).at_, .int .i64 (turnV n s).way]) ∧ Below w.heap.size w w' := by
  have HR := Aside0.mk hr
  have HF := Aside0.mk hf
  clear hr hf
  obtain ⟨⟨A0, c0⟩, ⟨A1, c1⟩⟩ := u
  obtain ⟨W0, hW0⟩ : ∃ W0 : World, W0 = ((w.alloc (.cells #[.slice A0 n.pieces.length c0, .slice A1 n.joints.length c1] 35)).alloc (.cells #[.int .i64 s.piece, .int .i64 s.at_, .int .i64 s.way] 38)).alloc (.cells #[.int .i64 0, .int .i64 0, .int .i64 0] 38) := ⟨_, rfl⟩
  have HN : Aside0 (Bx W0 w.heap.size [.slice A0 n.pieces.length c0, .slice A1 n.joints.length c1]) := ⟨by rw [hW0]; exact ((Bx.new w [.slice A0 n.pieces.length c0, .slice A1 n.joints.length c1] 35).alloc _).alloc _⟩
  have HS : Aside0 (Bx W0 (w.heap.size + 1) [.int .i64 s.piece, .int .i64 s.at_, .int .i64 s.way]) := ⟨by
    have := (Bx.new (w.alloc (.cells #[.slice A0 n.pieces.length c0, .slice A1 n.joints.length c1] 35)) [.int .i64 s.piece, .int .i64 s.at_, .int .i64 s.way] 38).alloc (.cells #[.int .i64 0, .int .i64 0, .int .i64 0] 38)
    rw [hW0]; simpa using this⟩
  have HX : Aside0 (Bx W0 (w.heap.size + 2) [.int .i64 0, .int .i64 0, .int .i64 0]) := ⟨by
    have := Bx.new ((w.alloc (.cells #[.slice A0 n.pieces.length c0, .slice A1 n.joints.length c1] 35)).alloc (.cells #[.int .i64 s.piece, .int .i64 s.at_, .int .i64 s.way] 38)) [.int .i64 0, .int .i64 0, .int .i64 0] 38
    rw [hW0]; simpa using this⟩
  have fb := Aside0.mk (show Below w.heap.size w W0 by rw [hW0]; exact below_three _ _ _ _)
  have HW := Aside0.mk hW0
  clear hW0
  cases hg : spotOkB n s with
  | false =>
    have HG := Aside0.mk (show turnV n s = ⟨0, 0, 0⟩ from if_neg (by rw [hg]; simp))
    have HG2 := Aside0.mk hg
    clear hg
    go_enter Try.func54, Try.ntmps54
    go_wp2_with (go_at_call 49; rw [← HW.out]; refine (implSpotOk_any n ((A0, c0), (A1, c1)) s _ (HR.out.below fb.out) HF.out).mono ?_; rintro e w3 ⟨rfl, hb3⟩; rw [HG2.out]; have HX3 := Aside0.mk (HX.out.below hb3); have B3 := Aside0.mk (below_more fb.out hb3); clear hb3; have x0 := HX3.out.c 0 _ rfl; have x1 := HX3.out.c 1 _ rfl; have x2 := HX3.out.c 2 _ rfl; have y0 := HX3.out.f 0; have y1 := HX3.out.f 1; have y2 := HX3.out.f 2; have asz := HX3.out.lt)
    refine bodyPost_ret (v := .agg #[.int .i64 0, .int .i64 0, .int .i64 0]) (by simp [results, Try.results54, go_sem, x0, x1, x2, asz]) rfl ⟨by rw [HG.out], ?_⟩
    repeat (first | (with_reducible exact B3.out) | (with_reducible refine below_set ?_ (by omega)) | (with_reducible refine below_alloc ?_ _))
  | true =>
    have hw : s.way = 1 ∨ s.way = -1 := spotB_way (n := n) (by unfold spotOkB at hg; simp only [Bool.and_eq_true] at hg; exact hg.2)
    have HG := Aside0.mk (show turnV n s = ⟨s.piece, s.at_, -s.way⟩ from if_pos hg)
    have HG2 := Aside0.mk hg
    have hneg : IntKind.i64.wrap (-s.way) = -s.way := wrap64 (by omega) (by omega)
    clear hg
    go_enter Try.func54, Try.ntmps54
    go_wp2_with (go_at_call 49; rw [← HW.out]; refine (implSpotOk_any n ((A0, c0), (A1, c1)) s _ (HR.out.below fb.out) HF.out).mono ?_; rintro e w3 ⟨rfl, hb3⟩; rw [HG2.out]; have HX3 := Aside0.mk (HX.out.below hb3); have HS3 := Aside0.mk (HS.out.below hb3); have B3 := Aside0.mk (below_more fb.out hb3); clear hb3; have x0 := HX3.out.c 0 _ rfl; have x1 := HX3.out.c 1 _ rfl; have x2 := HX3.out.c 2 _ rfl; have y0 := HX3.out.f 0; have y1 := HX3.out.f 1; have y2 := HX3.out.f 2; have asz := HX3.out.lt; have m0 := HS3.out.c 0 _ rfl; have m1 := HS3.out.c 1 _ rfl; have m2 := HS3.out.c 2 _ rfl; have k0 := HS3.out.f 0; have k1 := HS3.out.f 1; have k2 := HS3.out.f 2; have as1 := HS3.out.lt)
    refine bodyPost_ret (v := .agg #[.int .i64 s.piece, .int .i64 s.at_, .int .i64 (-s.way)]) (by simp [results, Try.results54, go_sem, x0, x1, x2, asz]) rfl ⟨by rw [HG.out], ?_⟩
    repeat (first | (with_reducible exact B3.out) | (with_reducible refine below_set ?_ (by omega)) | (with_reducible refine below_alloc ?_ _))
end Go.Proofs.Ytckcffjnffcjcaa
