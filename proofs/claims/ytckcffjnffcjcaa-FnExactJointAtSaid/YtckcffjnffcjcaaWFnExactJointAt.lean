/- Proved: a call of FnExactJointAt returns true and changes nothing that was there, whatever it is given. No conditions. -/
import Derived.Test.YtckcffjnffcjcaaNets
import Derived.Test.YtckcffjnffcjcaaJoint
import Derived.Deep.RegionHeld3
set_option linter.unusedVariables false
set_option linter.unusedSimpArgs false
namespace Go.Proofs.Ytckcffjnffcjcaa
open Go.RowKit Go.Proofs.YtckcffjnffcjcaaW.PrintWords
set_option maxRecDepth 100000 in
set_option maxHeartbeats 1000000 in
theorem FnExactJointAt_walk (u : (Option Addr × Nat) × (Option Addr × Nat)) (n : NetT) (u1 : Unit) (s : EndT) (w : World) (hr : RdNet 65 w u n) (hg : GNet n) (h1 : True) (g1 : GEnd s) :
    Calls Try.prog 9 #[.agg #[.slice u.1.1 n.pieces.length u.1.2, .slice u.2.1 n.joints.length u.2.2], .agg #[.int .i64 s.piece, .int .i64 s.side]] w fun e w' => e = .returned (.bool true) ∧ Below w.heap.size w w' := by
  have HR := Aside0.mk hr
  have HG := Aside0.mk hg
  clear hr hg
  obtain ⟨⟨A0, c0⟩, ⟨A1, c1⟩⟩ := u
  obtain ⟨W0, hW0⟩ : ∃ W0 : World, W0 = (w.alloc (.cells #[.slice A0 n.pieces.length c0, .slice A1 n.joints.length c1] 52)).alloc (.cells #[.int .i64 s.piece, .int .i64 s.side] 65) := ⟨_, rfl⟩
  have HN : Aside0 (Bx W0 w.heap.size [.slice A0 n.pieces.length c0, .slice A1 n.joints.length c1]) := ⟨by rw [hW0]; exact (Bx.new w [.slice A0 n.pieces.length c0, .slice A1 n.joints.length c1] 52).alloc _⟩
  have HS : Aside0 (Bx W0 (w.heap.size + 1) [.int .i64 s.piece, .int .i64 s.side]) := ⟨by
    have := Bx.new (w.alloc (.cells #[.slice A0 n.pieces.length c0, .slice A1 n.joints.length c1] 52)) [.int .i64 s.piece, .int .i64 s.side] 65
    rw [hW0]; simpa using this⟩
  have B0 := Aside0.mk (show Below w.heap.size w W0 by rw [hW0]; exact below_two _ _ _)
  have HW := Aside0.mk hW0
  clear hW0
  by_cases h : (1048576 : Int) - wNet n < 0
  · have e1 := Aside0.mk (cutZ_neg h)
    go_enter Try.func9, Try.ntmps9
    go_wp2_with (go_at_call 41; rw [← HW.out]; refine (szNet_of n ((A0, c0), (A1, c1)) _ (HR.out.below B0.out) HG.out).mono ?_; rintro e w1 ⟨rfl, b1⟩; rw [e1.out]; have B1 := Aside0.mk (below_more B0.out b1); clear b1)
    go_ret
    exact ⟨rfl, B1.out⟩
  · have e1 := Aside0.mk (cutZ_pos (x := (1048576 : Int) - wNet n) (by omega))
    have HF := Aside0.mk (NetFits.of HG.out (by omega))
    obtain ⟨z, hz⟩ : ∃ z : Int, z = 1048576 - wNet n := ⟨_, rfl⟩
    rw [← hz] at e1 h
    have HZ := Aside0.mk hz
    clear hz
    go_enter Try.func9, Try.ntmps9
    go_wp2_with (go_at_call 41; rw [← HW.out]; refine (szNet_of n ((A0, c0), (A1, c1)) _ (HR.out.below B0.out) HG.out).mono ?_; rintro e w1 ⟨rfl, b1⟩; rw [← HZ.out, e1.out]; have B1 := Aside0.mk (below_more B0.out b1); have N1 := Aside0.mk (HN.out.below b1); have S1 := Aside0.mk (HS.out.below b1); clear b1)
    have HS1 : Aside0 (∀ W, Below w1.heap.size w1 W → (Below w1.heap.size w1 W ∧ W.cell? ⟨w.heap.size, 0, none⟩ = some (.slice A0 n.pieces.length c0) ∧ W.cell? ⟨w.heap.size, 1, none⟩ = some (.slice A1 n.joints.length c1) ∧ W.cell? ⟨w.heap.size + 1, 0, none⟩ = some (.int .i64 s.piece) ∧ W.cell? ⟨w.heap.size + 1, 1, none⟩ = some (.int .i64 s.side))) :=
      ⟨fun W hb => ⟨hb, (N1.out.below hb).c 0 _ rfl, (N1.out.below hb).c 1 _ rfl, (S1.out.below hb).c 0 _ rfl, (S1.out.below hb).c 1 _ rfl⟩⟩
    go_region_held3 (fun W => Below w1.heap.size w1 W ∧ W.cell? ⟨w.heap.size, 0, none⟩ = some (.slice A0 n.pieces.length c0) ∧ W.cell? ⟨w.heap.size, 1, none⟩ = some (.slice A1 n.joints.length c1) ∧ W.cell? ⟨w.heap.size + 1, 0, none⟩ = some (.int .i64 s.piece) ∧ W.cell? ⟨w.heap.size + 1, 1, none⟩ = some (.int .i64 s.side))
      (first | assumption | exact HS1.out _ (by assumption) | exact HS1.out _ (Below.drew (Below.refl _ _)))
      (first
        | (go_at_call 43; go_split_ands; refine Calls.mono (toNet_of n ((A0, c0), (A1, c1)) _ ((HR.out.below B1.out).below (by assumption)) HF.out.p HF.out.j HF.out.e) ?_; rintro e w3 ⟨u3, rfl, r3, b3⟩; have R3 := Aside0.mk r3; have q3 : Below w1.heap.size w1 w3 := below_more (by assumption) b3; clear r3 b3)
        | (go_at_call 51; go_split_ands; refine Calls.mono (toEnd_any s _) ?_; rintro e w4 ⟨rfl, b3⟩; have R4 := Aside0.mk (R3.out.below b3); have q4 : Below w1.heap.size w1 w4 := below_more (by assumption) b3; clear b3)
        | (go_at_call 50; go_split_ands; refine Calls.mono (specJointAt_any n u3 s _ R4.out HF.out) ?_; rintro e w5 ⟨rfl, b3⟩; have q5 : Below w1.heap.size w1 w5 := below_more (by assumption) b3; have B5 := Aside0.mk (below_more B1.out q5); have N5 := Aside0.mk (N1.out.below q5); have S5 := Aside0.mk (S1.out.below q5); clear b3))
    have a0 := N5.out.c 0 _ rfl
    have a1 := N5.out.c 1 _ rfl
    go_wp2_with fail
    refine Calls.mono (toNet_of n ((A0, c0), (A1, c1)) _ (HR.out.below B5.out) HF.out.p HF.out.j HF.out.e) ?_
    rintro e w6 ⟨u6, rfl, r6, b6⟩
    obtain ⟨⟨⟨A6, k6⟩, ⟨D6, m6⟩⟩, hu6⟩ : ∃ u, u = u6 := ⟨_, rfl⟩
    subst hu6
    have R6 := Aside0.mk r6
    have B6 := Aside0.mk (below_more B5.out b6)
    have N6 := Aside0.mk (N5.out.below b6)
    have S6 := Aside0.mk (S5.out.below b6)
    clear r6 b6 a0 a1
    go_wp2_with fail
    obtain ⟨W7, hW7⟩ : ∃ W7 : World, W7 = w6.alloc (.cells #[.slice A6 n.pieces.length k6, .slice D6 n.joints.length m6] 35) := ⟨_, rfl⟩
    have B7 : Aside0 (Below w.heap.size w W7) := ⟨by rw [hW7]; exact below_alloc B6.out _⟩
    have N7 : Aside0 (Bx W7 w.heap.size [.slice A0 n.pieces.length c0, .slice A1 n.joints.length c1]) := ⟨by rw [hW7]; exact N6.out.alloc _⟩
    have S7 : Aside0 (Bx W7 (w.heap.size + 1) [.int .i64 s.piece, .int .i64 s.side]) := ⟨by rw [hW7]; exact S6.out.alloc _⟩
    have M7 : Aside0 (Bx W7 w6.heap.size [.slice A6 n.pieces.length k6, .slice D6 n.joints.length m6]) := ⟨by rw [hW7]; exact Bx.new w6 _ 35⟩
    have R7 : Aside0 (RdNet 67 W7 ((A6, k6), (D6, m6)) n) := ⟨by rw [hW7]; exact R6.out.below (below_alloc (Below.refl _ _) _)⟩
    rw [← hW7]
    clear hW7 R6
    have HS7 : Aside0 (∀ W, Below W7.heap.size W7 W → (Below W7.heap.size W7 W ∧ W.cell? ⟨w6.heap.size, 0, none⟩ = some (.slice A6 n.pieces.length k6) ∧ W.cell? ⟨w6.heap.size, 1, none⟩ = some (.slice D6 n.joints.length m6) ∧ W.cell? ⟨w.heap.size + 1, 0, none⟩ = some (.int .i64 s.piece) ∧ W.cell? ⟨w.heap.size + 1, 1, none⟩ = some (.int .i64 s.side))) :=
      ⟨fun W hb => ⟨hb, (M7.out.below hb).c 0 _ rfl, (M7.out.below hb).c 1 _ rfl, (S7.out.below hb).c 0 _ rfl, (S7.out.below hb).c 1 _ rfl⟩⟩
    go_region_held3 (fun W => Below W7.heap.size W7 W ∧ W.cell? ⟨w6.heap.size, 0, none⟩ = some (.slice A6 n.pieces.length k6) ∧ W.cell? ⟨w6.heap.size, 1, none⟩ = some (.slice D6 n.joints.length m6) ∧ W.cell? ⟨w.heap.size + 1, 0, none⟩ = some (.int .i64 s.piece) ∧ W.cell? ⟨w.heap.size + 1, 1, none⟩ = some (.int .i64 s.side))
      (first | assumption | exact HS7.out _ (by assumption) | exact HS7.out _ (Below.drew (Below.refl _ _)))
      (first
        | (go_at_call 51; go_split_ands; refine Calls.mono (toEnd_any s _) ?_; rintro e w8 ⟨rfl, b3⟩; have q8 : Below W7.heap.size W7 w8 := below_more (by assumption) b3; clear b3)
        | (go_at_call 52; go_split_ands; refine Calls.mono (implJointAt_any n ((A6, k6), (D6, m6)) s _ (R7.out.below (by assumption)) HF.out) ?_; rintro e w9 ⟨rfl, b3⟩; have q9 : Below W7.heap.size W7 w9 := below_more (by assumption) b3; have B9 := Aside0.mk (below_more B7.out q9); have N9 := Aside0.mk (N7.out.below q9); have M9 := Aside0.mk (M7.out.below q9); have R9 := Aside0.mk (R7.out.below q9); clear b3))
    have hne : (jointAtV n s != jointAtV n s) = false := by simp
    go_wp2_with fail
    have HS9 : Aside0 (∀ W, Below w9.heap.size w9 W → (Below w9.heap.size w9 W ∧ W.cell? ⟨w6.heap.size, 0, none⟩ = some (.slice A6 n.pieces.length k6) ∧ W.cell? ⟨w6.heap.size, 1, none⟩ = some (.slice D6 n.joints.length m6) ∧ W.cell? ⟨w.heap.size, 0, none⟩ = some (.slice A0 n.pieces.length c0) ∧ W.cell? ⟨w.heap.size, 1, none⟩ = some (.slice A1 n.joints.length c1))) :=
      ⟨fun W hb => ⟨hb, (M9.out.below hb).c 0 _ rfl, (M9.out.below hb).c 1 _ rfl, (N9.out.below hb).c 0 _ rfl, (N9.out.below hb).c 1 _ rfl⟩⟩
    go_region_held3 (fun W => Below w9.heap.size w9 W ∧ W.cell? ⟨w6.heap.size, 0, none⟩ = some (.slice A6 n.pieces.length k6) ∧ W.cell? ⟨w6.heap.size, 1, none⟩ = some (.slice D6 n.joints.length m6) ∧ W.cell? ⟨w.heap.size, 0, none⟩ = some (.slice A0 n.pieces.length c0) ∧ W.cell? ⟨w.heap.size, 1, none⟩ = some (.slice A1 n.joints.length c1))
      (first | assumption | exact HS9.out _ (by assumption) | exact HS9.out _ (Below.drew (Below.refl _ _)))
      (first
        | (go_at_call 43; go_split_ands; refine Calls.mono (toNet_of n ((A0, c0), (A1, c1)) _ ((HR.out.below B9.out).below (by assumption)) HF.out.p HF.out.j HF.out.e) ?_; rintro e w10 ⟨u10, rfl, r10, b3⟩; have R10 := Aside0.mk r10; have q10 : Below w9.heap.size w9 w10 := below_more (by assumption) b3; clear r10 b3)
        | (go_at_call 46; go_split_ands; refine Calls.mono (eqNet_any n n ((A6, k6), (D6, m6)) u10 _ (R9.out.below (by assumption)) R10.out) ?_; rintro e w11 ⟨rfl, b3⟩; rw [show decide (n = n) = true by simp]; have q11 : Below w9.heap.size w9 w11 := below_more (by assumption) b3; clear b3))
    go_wp2
    go_ret
    exact ⟨rfl, below_more B9.out (by assumption)⟩
end Go.Proofs.Ytckcffjnffcjcaa
