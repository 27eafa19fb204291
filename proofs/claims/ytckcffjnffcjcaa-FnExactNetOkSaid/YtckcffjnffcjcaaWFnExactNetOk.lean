/- Proved: a call of FnExactNetOk returns true and changes nothing that was there, whatever net it is given. No conditions. -/
import Derived.Test.YtckcffjnffcjcaaNets
import Derived.Test.YtckcffjnffcjcaaNet4
set_option linter.unusedVariables false
set_option linter.unusedSimpArgs false
namespace Go.Proofs.Ytckcffjnffcjcaa
open Go.RowKit Go.Proofs.YtckcffjnffcjcaaW.PrintWords
set_option maxRecDepth 100000 in
set_option maxHeartbeats 1000000 in
theorem FnExactNetOk_walk (u : (Option Addr × Nat) × (Option Addr × Nat)) (n : NetT) (w : World) (hr : RdNet 65 w u n) (hg : GNet n) :
    Calls Try.prog 7 #[.agg #[.slice u.1.1 n.pieces.length u.1.2, .slice u.2.1 n.joints.length u.2.2]] w fun e w' => e = .returned (.bool true) ∧ Below w.heap.size w w' := by
  have HR := Aside0.mk hr
  have HG := Aside0.mk hg
  clear hr hg
  obtain ⟨⟨A0, c0⟩, ⟨A1, c1⟩⟩ := u
  obtain ⟨W0, hW0⟩ : ∃ W0 : World, W0 = w.alloc (.cells #[.slice A0 n.pieces.length c0, .slice A1 n.joints.length c1] 52) := ⟨_, rfl⟩
  have HN : Aside0 (Bx W0 w.heap.size [.slice A0 n.pieces.length c0, .slice A1 n.joints.length c1]) := ⟨by rw [hW0]; exact Bx.new w _ 52⟩
  have B0 := Aside0.mk (show Below w.heap.size w W0 by rw [hW0]; exact below_alloc (Below.refl _ _) _)
  have HW := Aside0.mk hW0
  clear hW0
  by_cases h : (1048576 : Int) - wNet n < 0
  · have e1 := Aside0.mk (cutZ_neg h)
    go_enter Try.func7, Try.ntmps7
    go_wp2_with (go_at_call 41; rw [← HW.out]; refine (szNet_of n ((A0, c0), (A1, c1)) _ (HR.out.below B0.out) HG.out).mono ?_; rintro e w1 ⟨rfl, b1⟩; rw [e1.out]; have B1 := Aside0.mk (below_more B0.out b1); clear b1)
    go_ret
    exact ⟨rfl, B1.out⟩
  · have e1 := Aside0.mk (cutZ_pos (x := (1048576 : Int) - wNet n) (by omega))
    have HF := Aside0.mk (NetFits.of HG.out (by omega))
    obtain ⟨z, hz⟩ : ∃ z : Int, z = 1048576 - wNet n := ⟨_, rfl⟩
    rw [← hz] at e1 h
    have HZ := Aside0.mk hz
    clear hz
    go_enter Try.func7, Try.ntmps7
    go_wp2_with (go_at_call 41; rw [← HW.out]; refine (szNet_of n ((A0, c0), (A1, c1)) _ (HR.out.below B0.out) HG.out).mono ?_; rintro e w1 ⟨rfl, b1⟩; rw [← HZ.out, e1.out]; have B1 := Aside0.mk (below_more B0.out b1); have N1 := Aside0.mk (HN.out.below b1); clear b1; have a0 := N1.out.c 0 _ rfl; have a1 := N1.out.c 1 _ rfl)
    refine Calls.mono (toNet_of n ((A0, c0), (A1, c1)) _ (HR.out.below B1.out) HF.out.p HF.out.j HF.out.e) ?_
    rintro e w2 ⟨u2, rfl, r2, b2⟩
    have R2 := Aside0.mk r2
    have B2 := Aside0.mk (below_more B1.out b2)
    have N2 := Aside0.mk (N1.out.below b2)
    clear r2 b2 a0 a1
    go_wp2_with fail
    refine (specNetOk_any n u2 _ R2.out HF.out.jn HF.out.pn HF.out.all).mono ?_
    rintro e w3 ⟨rfl, b3⟩
    have B3 := Aside0.mk (below_more B2.out b3)
    have N3 := Aside0.mk (N2.out.below b3)
    clear b3
    obtain ⟨⟨f0, f1⟩, hf⟩ : ∃ f : Int × Int, f = netFault n := ⟨_, rfl⟩
    rw [← hf]
    have HFt := Aside0.mk hf
    clear hf
    have a0 := N3.out.c 0 _ rfl
    have a1 := N3.out.c 1 _ rfl
    have as0 := N3.out.lt
    go_wp2_with fail
    obtain ⟨W4, hW4⟩ : ∃ W4 : World, W4 = w3.alloc (.cells #[.int .i64 f0, .int .i64 f1] 55) := ⟨_, rfl⟩
    have B4 : Aside0 (Below w.heap.size w W4) := ⟨by rw [hW4]; exact below_alloc B3.out _⟩
    have N4 : Aside0 (Bx W4 w.heap.size [.slice A0 n.pieces.length c0, .slice A1 n.joints.length c1]) := ⟨by rw [hW4]; exact N3.out.alloc _⟩
    have F4 : Aside0 (Bx W4 w3.heap.size [.int .i64 f0, .int .i64 f1]) := ⟨by rw [hW4]; exact Bx.new w3 _ 55⟩
    rw [← hW4]
    clear hW4 a0 a1 as0
    refine Calls.mono (toNet_of n ((A0, c0), (A1, c1)) _ (HR.out.below B4.out) HF.out.p HF.out.j HF.out.e) ?_
    rintro e w5 ⟨u5, rfl, r5, b5⟩
    have R5 := Aside0.mk r5
    have B5 := Aside0.mk (below_more B4.out b5)
    have N5 := Aside0.mk (N4.out.below b5)
    have F5 := Aside0.mk (F4.out.below b5)
    clear r5 b5
    have as5 := F5.out.lt
    have as0 := N5.out.lt
    go_wp2_with fail
    obtain ⟨⟨⟨A5, k5⟩, ⟨D5, m5⟩⟩, hu5⟩ : ∃ u, u = u5 := ⟨_, rfl⟩
    subst hu5
    obtain ⟨W6, hW6⟩ : ∃ W6 : World, W6 = w5.alloc (.cells #[.slice A5 n.pieces.length k5, .slice D5 n.joints.length m5] 35) := ⟨_, rfl⟩
    have B6 : Aside0 (Below w.heap.size w W6) := ⟨by rw [hW6]; exact below_alloc B5.out _⟩
    have N6 : Aside0 (Bx W6 w.heap.size [.slice A0 n.pieces.length c0, .slice A1 n.joints.length c1]) := ⟨by rw [hW6]; exact N5.out.alloc _⟩
    have F6 : Aside0 (Bx W6 w3.heap.size [.int .i64 f0, .int .i64 f1]) := ⟨by rw [hW6]; exact F5.out.alloc _⟩
    have M6 : Aside0 (Bx W6 w5.heap.size [.slice A5 n.pieces.length k5, .slice D5 n.joints.length m5]) := ⟨by rw [hW6]; exact Bx.new w5 _ 35⟩
    have R6 : Aside0 (RdNet 67 W6 ((A5, k5), (D5, m5)) n) := ⟨by rw [hW6]; exact R5.out.below (below_alloc (Below.refl _ _) _)⟩
    rw [← hW6]
    clear hW6 as5 as0 R5
    have c0' := M6.out.c 0 _ rfl
    have c1' := M6.out.c 1 _ rfl
    go_wp2_with fail
    refine (implNetOk_any n ((A5, k5), (D5, m5)) _ R6.out HF.out.jn HF.out.pn HF.out.all).mono ?_
    rintro e w7 ⟨rfl, b7⟩
    have B7 := Aside0.mk (below_more B6.out b7)
    have N7 := Aside0.mk (N6.out.below b7)
    have F7 := Aside0.mk (F6.out.below b7)
    have M7 := Aside0.mk (M6.out.below b7)
    have R7 := Aside0.mk (R6.out.below b7)
    clear b7 c0' c1' R6
    rw [← HFt.out]
    have as7 := F7.out.lt
    have c0' := F7.out.c 0 _ rfl
    have c1' := F7.out.c 1 _ rfl
    go_wp2_with fail
    clear c0' c1'
    obtain ⟨W8, hW8⟩ : ∃ W8 : World, W8 = w7.alloc (.cells #[.int .i64 f0, .int .i64 f1] 55) := ⟨_, rfl⟩
    have B8 : Aside0 (Below w.heap.size w W8) := ⟨by rw [hW8]; exact below_alloc B7.out _⟩
    have N8 : Aside0 (Bx W8 w.heap.size [.slice A0 n.pieces.length c0, .slice A1 n.joints.length c1]) := ⟨by rw [hW8]; exact N7.out.alloc _⟩
    have F8 : Aside0 (Bx W8 w3.heap.size [.int .i64 f0, .int .i64 f1]) := ⟨by rw [hW8]; exact F7.out.alloc _⟩
    have M8 : Aside0 (Bx W8 w5.heap.size [.slice A5 n.pieces.length k5, .slice D5 n.joints.length m5]) := ⟨by rw [hW8]; exact M7.out.alloc _⟩
    have G8 : Aside0 (Bx W8 w7.heap.size [.int .i64 f0, .int .i64 f1]) := ⟨by rw [hW8]; exact Bx.new w7 _ 55⟩
    have R8 : Aside0 (RdNet 67 W8 ((A5, k5), (D5, m5)) n) := ⟨by rw [hW8]; exact R7.out.below (below_alloc (Below.refl _ _) _)⟩
    rw [← hW8]
    clear hW8 as7 R7
    refine (eqFault_any f0 f1 f0 f1 _).mono ?_
    rintro e w9 ⟨rfl, b9⟩
    rw [show decide (f0 = f0 ∧ f1 = f1) = true by simp]
    have B9 := Aside0.mk (below_more B8.out b9)
    have N9 := Aside0.mk (N8.out.below b9)
    have M9 := Aside0.mk (M8.out.below b9)
    have R9 := Aside0.mk (R8.out.below b9)
    clear b9 R8
    have a0 := N9.out.c 0 _ rfl
    have a1 := N9.out.c 1 _ rfl
    have a2 := M9.out.c 0 _ rfl
    have a3 := M9.out.c 1 _ rfl
    have as9 := N9.out.lt
    have ms9 := M9.out.lt
    go_wp2_with fail
    go_region_with (first
      | (go_at_call 43; refine (toNet_of n ((A0, c0), (A1, c1)) _ (HR.out.below (Below.drew B9.out)) HF.out.p HF.out.j HF.out.e).mono ?_; rintro e w10 ⟨u10, rfl, r10, b10⟩; have R10 := Aside0.mk r10; have B10 := Aside0.mk (below_more B9.out.drew b10); have R11 := Aside0.mk (RdNet.below (w := w9.drew) R9.out b10); have M10 := Aside0.mk ((M9.out.below (Below.refl _ _).drew).below b10); have m0 := M10.out.c 0 _ rfl; have m1 := M10.out.c 1 _ rfl; clear r10 b10)
      | (go_at_call 46; refine (eqNet_any n n ((A5, k5), (D5, m5)) u10 _ R11.out R10.out).mono ?_; rintro e w12 ⟨rfl, b12⟩; have B12 := Aside0.mk (below_more B10.out b12); rw [show decide (n = n) = true by simp]; clear b12))
    all_goals
      go_wp2
      go_ret
      exact ⟨rfl, B12.out⟩
end Go.Proofs.Ytckcffjnffcjcaa
