/- Contracts of SpotOk, of the reference and of the program. Conditions: the net fits. -/
import Derived.Test.YtckcffjnffcjcaaSpot1
set_option linter.unusedVariables false
set_option linter.unusedSimpArgs false
namespace Go.Proofs.Ytckcffjnffcjcaa
open Go.RowKit Go.Proofs.YtckcffjnffcjcaaW.PrintWords
set_option maxRecDepth 100000 in
theorem specSpotOk_any (n : NetT) (u : (Option Addr × Nat) × (Option Addr × Nat)) (s : SpotT) (w : World) (hr : RdNet 67 w u n) (hf : NetFits n) :
    Calls Try.prog 47 #[.agg #[.slice u.1.1 n.pieces.length u.1.2, .slice u.2.1 n.joints.length u.2.2], .agg #[.int .i64 s.piece, .int .i64 s.at_, .int .i64 s.way]] w
      fun e w' => e = .returned (.bool (spotOkB n s)) ∧ Below w.heap.size w w' := by
  have HR := Aside0.mk hr
  have HF := Aside0.mk hf
  clear hr hf
  obtain ⟨⟨A0, c0⟩, ⟨A1, c1⟩⟩ := u
  obtain ⟨W0, hW0⟩ : ∃ W0 : World, W0 = (w.alloc (.cells #[.slice A0 n.pieces.length c0, .slice A1 n.joints.length c1] 35)).alloc (.cells #[.int .i64 s.piece, .int .i64 s.at_, .int .i64 s.way] 38) := ⟨_, rfl⟩
  have HN : Aside0 (Bx W0 w.heap.size [.slice A0 n.pieces.length c0, .slice A1 n.joints.length c1]) := ⟨by rw [hW0]; exact (Bx.new w [.slice A0 n.pieces.length c0, .slice A1 n.joints.length c1] 35).alloc _⟩
  have HS : Aside0 (Bx W0 (w.heap.size + 1) [.int .i64 s.piece, .int .i64 s.at_, .int .i64 s.way]) := ⟨by
    have := Bx.new (w.alloc (.cells #[.slice A0 n.pieces.length c0, .slice A1 n.joints.length c1] 35)) [.int .i64 s.piece, .int .i64 s.at_, .int .i64 s.way] 38
    rw [hW0]; simpa using this⟩
  have fb := Aside0.mk (show Below w.heap.size w W0 by rw [hW0]; exact below_two _ _ _)
  have HW := Aside0.mk hW0
  clear hW0
  cases hg : netGood n with
  | false =>
    have HG := Aside0.mk (show spotOkB n s = false by unfold spotOkB; rw [hg]; rfl)
    have HG2 := Aside0.mk hg
    clear hg
    go_enter Try.func47, Try.ntmps47
    go_wp2_with (go_at_call 128; rw [← HW.out]; refine (l1ok_any n ((A0, c0), (A1, c1)) _ (HR.out.below fb.out) HF.out).mono ?_; rintro e w3 ⟨rfl, hb3⟩; rw [HG2.out]; have HB := Aside0.mk (below_more fb.out hb3); clear hb3)
    go_ret
    exact ⟨by rw [HG.out]; rfl, HB.out⟩
  | true =>
    have HG := Aside0.mk (show spotOkB n s = spotB n s by unfold spotOkB; rw [hg]; rfl)
    have HG2 := Aside0.mk hg
    clear hg
    go_enter Try.func47, Try.ntmps47
    go_wp2_with (go_at_call 128; rw [← HW.out]; refine (l1ok_any n ((A0, c0), (A1, c1)) _ (HR.out.below fb.out) HF.out).mono ?_; rintro e w3 ⟨rfl, hb3⟩; rw [HG2.out]; have HB := Aside0.mk (below_more fb.out hb3); have HN3 := Aside0.mk (HN.out.below hb3); have HS3 := Aside0.mk (HS.out.below hb3); clear hb3; have n0 := HN3.out.c 0 _ rfl; have n1 := HN3.out.c 1 _ rfl; have m0 := HS3.out.c 0 _ rfl; have m1 := HS3.out.c 1 _ rfl; have m2 := HS3.out.c 2 _ rfl)
    refine (l3spot_any n ((A0, c0), (A1, c1)) s _ (HR.out.below HB.out)).mono ?_
    rintro e w4 ⟨rfl, hb4⟩
    have HB4 := Aside0.mk (below_more HB.out hb4)
    clear hb4
    go_wp2
    go_ret
    exact ⟨by rw [HG.out]; rfl, HB4.out⟩
set_option maxRecDepth 100000 in
theorem implSpotOk_any (n : NetT) (u : (Option Addr × Nat) × (Option Addr × Nat)) (s : SpotT) (w : World) (hr : RdNet 67 w u n) (hf : NetFits n) :
    Calls Try.prog 49 #[.agg #[.slice u.1.1 n.pieces.length u.1.2, .slice u.2.1 n.joints.length u.2.2], .agg #[.int .i64 s.piece, .int .i64 s.at_, .int .i64 s.way]] w
      fun e w' => e = .returned (.bool (spotOkB n s)) ∧ Below w.heap.size w w' := by
  have HR := Aside0.mk hr
  have HF := Aside0.mk hf
  clear hr hf
  obtain ⟨⟨A0, c0⟩, ⟨A1, c1⟩⟩ := u
  obtain ⟨W0, hW0⟩ : ∃ W0 : World, W0 = (w.alloc (.cells #[.slice A0 n.pieces.length c0, .slice A1 n.joints.length c1] 35)).alloc (.cells #[.int .i64 s.piece, .int .i64 s.at_, .int .i64 s.way] 38) := ⟨_, rfl⟩
  have HN : Aside0 (Bx W0 w.heap.size [.slice A0 n.pieces.length c0, .slice A1 n.joints.length c1]) := ⟨by rw [hW0]; exact (Bx.new w [.slice A0 n.pieces.length c0, .slice A1 n.joints.length c1] 35).alloc _⟩
  have HS : Aside0 (Bx W0 (w.heap.size + 1) [.int .i64 s.piece, .int .i64 s.at_, .int .i64 s.way]) := ⟨by
    have := Bx.new (w.alloc (.cells #[.slice A0 n.pieces.length c0, .slice A1 n.joints.length c1] 35)) [.int .i64 s.piece, .int .i64 s.at_, .int .i64 s.way] 38
    rw [hW0]; simpa using this⟩
  have fb := Aside0.mk (show Below w.heap.size w W0 by rw [hW0]; exact below_two _ _ _)
  have HW := Aside0.mk hW0
  clear hW0
  cases hg : netGood n with
  | false =>
    have HG := Aside0.mk (show spotOkB n s = false by unfold spotOkB; rw [hg]; rfl)
    have HG2 := Aside0.mk hg
    clear hg
    go_enter Try.func49, Try.ntmps49
    go_wp2_with (go_at_call 130; rw [← HW.out]; refine (good_any n ((A0, c0), (A1, c1)) _ (HR.out.below fb.out) HF.out).mono ?_; rintro e w3 ⟨rfl, hb3⟩; rw [HG2.out]; have HB := Aside0.mk (below_more fb.out hb3); clear hb3)
    go_ret
    exact ⟨by rw [HG.out]; rfl, HB.out⟩
  | true =>
    have HG := Aside0.mk (show spotOkB n s = spotB n s by unfold spotOkB; rw [hg]; rfl)
    have HG2 := Aside0.mk hg
    clear hg
    go_enter Try.func49, Try.ntmps49
    go_wp2_with (go_at_call 130; rw [← HW.out]; refine (good_any n ((A0, c0), (A1, c1)) _ (HR.out.below fb.out) HF.out).mono ?_; rintro e w3 ⟨rfl, hb3⟩; rw [HG2.out]; have HB := Aside0.mk (below_more fb.out hb3); have HN3 := Aside0.mk (HN.out.below hb3); have HS3 := Aside0.mk (HS.out.below hb3); clear hb3; have n0 := HN3.out.c 0 _ rfl; have n1 := HN3.out.c 1 _ rfl; have m0 := HS3.out.c 0 _ rfl; have m1 := HS3.out.c 1 _ rfl; have m2 := HS3.out.c 2 _ rfl)
    refine (spotOk_any n ((A0, c0), (A1, c1)) s _ (HR.out.below HB.out)).mono ?_
    rintro e w4 ⟨rfl, hb4⟩
    have HB4 := Aside0.mk (below_more HB.out hb4)
    clear hb4
    go_wp2
    go_ret
    exact ⟨by rw [HG.out]; rfl, HB4.out⟩
end Go.Proofs.Ytckcffjnffcjcaa
