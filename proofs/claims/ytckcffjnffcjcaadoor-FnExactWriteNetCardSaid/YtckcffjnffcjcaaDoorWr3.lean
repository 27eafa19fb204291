/- Proved: a call of FnExactWriteNet returns true and changes nothing that was there, whatever net it is given. Condition: the table that strconv.Itoa reads stands as it was laid. -/
import Derived.Test.YtckcffjnffcjcaaDoorWr2
set_option linter.unusedVariables false
set_option linter.unusedSimpArgs false
namespace Go.Proofs.YtckcffjnffcjcaaDoor
open Go.RowKit Go.Proofs.YtckcffjnffcjcaaDoorW.PrintWords
set_option maxRecDepth 100000 in
set_option maxHeartbeats 4000000 in
theorem FnExactWriteNet_walk (u : (Option Addr × Nat) × (Option Addr × Nat)) (n : NetT) (w : World) (hr : RdNet 134 w u n) (hg : GNet n) (htab : Lib.TabIs Tryd.prog w "internal/strconv.uint64pow10" .u64 Lib.pow10Tab) :
    Calls Tryd.prog 3 #[.agg #[.slice u.1.1 n.pieces.length u.1.2, .slice u.2.1 n.joints.length u.2.2]] w fun e w' => e = .returned (.bool true) ∧ Below w.heap.size w w' := by
  have HR := Aside0.mk hr
  have HG := Aside0.mk hg
  have HT := Aside0.mk (tabB_of htab)
  clear hr hg htab
  obtain ⟨⟨A0, c0⟩, ⟨A1, c1⟩⟩ := u
  obtain ⟨W0, hW0⟩ : ∃ W0 : World, W0 = w.alloc (.cells #[.slice A0 n.pieces.length c0, .slice A1 n.joints.length c1] 25) := ⟨_, rfl⟩
  have HN : Aside0 (Bx W0 w.heap.size [.slice A0 n.pieces.length c0, .slice A1 n.joints.length c1]) := ⟨by rw [hW0]; exact Bx.new w _ 25⟩
  have B0 := Aside0.mk (show Below w.heap.size w W0 by rw [hW0]; exact below_alloc (Below.refl _ _) _)
  have HW := Aside0.mk hW0
  clear hW0
  by_cases h : (1048576 : Int) - wNet n < 0
  · have e1 := Aside0.mk (cutZ_neg h)
    go_enter Tryd.func3, Tryd.ntmps3
    go_wp2_with (go_at_call 6; rw [← HW.out]; refine (szNet_of n ((A0, c0), (A1, c1)) _ (HR.out.below B0.out) HG.out).mono ?_; rintro e w1 ⟨rfl, b1⟩; rw [e1.out]; have B1 := Aside0.mk (below_more B0.out b1); clear b1)
    go_ret
    exact ⟨rfl, B1.out⟩
  · have e1 := Aside0.mk (cutZ_pos (x := (1048576 : Int) - wNet n) (by omega))
    have HF := Aside0.mk (NetFits.of HG.out (by omega))
    obtain ⟨z, hz⟩ : ∃ z : Int, z = 1048576 - wNet n := ⟨_, rfl⟩
    rw [← hz] at e1 h
    have HZ := Aside0.mk hz
    clear hz
    go_enter Tryd.func3, Tryd.ntmps3
    go_wp2_with (go_at_call 6; rw [← HW.out]; refine (szNet_of n ((A0, c0), (A1, c1)) _ (HR.out.below B0.out) HG.out).mono ?_; rintro e w1 ⟨rfl, b1⟩; rw [← HZ.out, e1.out]; have B1 := Aside0.mk (below_more B0.out b1); have N1 := Aside0.mk (HN.out.below b1); clear b1; have a0 := N1.out.c 0 _ rfl; have a1 := N1.out.c 1 _ rfl)
    refine Calls.mono (toNet_of n ((A0, c0), (A1, c1)) _ (HR.out.below B1.out) HF.out.p HF.out.j HF.out.e) ?_
    rintro e w2 ⟨u2, rfl, r2, b2⟩
    have R2 := Aside0.mk r2
    have B2 := Aside0.mk (below_more B1.out b2)
    have N2 := Aside0.mk (N1.out.below b2)
    clear r2 b2 a0 a1
    go_wp2_with fail
    refine (specWrite_any n u2 _ R2.out HF.out).mono ?_
    rintro e w3 ⟨rfl, b3⟩
    have B3 := Aside0.mk (below_more B2.out b3)
    have N3 := Aside0.mk (N2.out.below b3)
    clear b3
    obtain ⟨tx, htx⟩ : ∃ t : ByteArray, t = writeV n := ⟨_, rfl⟩
    rw [← htx]
    have HTX := Aside0.mk htx
    clear htx
    have a0 := N3.out.c 0 _ rfl
    have a1 := N3.out.c 1 _ rfl
    go_wp2_with fail
    refine Calls.mono (toNet_of n ((A0, c0), (A1, c1)) _ (HR.out.below B3.out) HF.out.p HF.out.j HF.out.e) ?_
    rintro e w5 ⟨u5, rfl, r5, b5⟩
    have R5 := Aside0.mk r5
    have B5 := Aside0.mk (below_more B3.out b5)
    have N5 := Aside0.mk (N3.out.below b5)
    clear r5 b5 a0 a1
    obtain ⟨⟨⟨A5, k5⟩, ⟨D5, m5⟩⟩, hu5⟩ : ∃ u, u = u5 := ⟨_, rfl⟩
    subst hu5
    obtain ⟨W6, hW6⟩ : ∃ W6 : World, W6 = w5.alloc (.cells #[.slice A5 n.pieces.length k5, .slice D5 n.joints.length m5] 31) := ⟨_, rfl⟩
    have B6 : Aside0 (Below w.heap.size w W6) := ⟨by rw [hW6]; exact below_alloc B5.out _⟩
    have N6 : Aside0 (Bx W6 w.heap.size [.slice A0 n.pieces.length c0, .slice A1 n.joints.length c1]) := ⟨by rw [hW6]; exact N5.out.alloc _⟩
    have M6 : Aside0 (Bx W6 w5.heap.size [.slice A5 n.pieces.length k5, .slice D5 n.joints.length m5]) := ⟨by rw [hW6]; exact Bx.new w5 _ 31⟩
    have R6 : Aside0 (RdNet 56 W6 ((A5, k5), (D5, m5)) n) := ⟨by rw [hW6]; exact R5.out.below (below_alloc (Below.refl _ _) _)⟩
    have HW6 := Aside0.mk hW6
    clear hW6 R5
    go_upto_region 7 with (fail)
    rw [← HW6.out]
    have c0' := M6.out.c 0 _ rfl
    have c1' := M6.out.c 1 _ rfl
    go_wp2_with fail
    refine (implWrite_any n ((A5, k5), (D5, m5)) _ R6.out HF.out (HT.out.at_ B6.out)).mono ?_
    rintro e w7 ⟨rfl, b7⟩
    rw [← HTX.out]
    have B7 := Aside0.mk (below_more B6.out b7)
    have N7 := Aside0.mk (N6.out.below b7)
    have M7 := Aside0.mk (M6.out.below b7)
    have R7 := Aside0.mk (R6.out.below b7)
    clear b7 c0' c1' R6
    have a0 := N7.out.c 0 _ rfl
    have a1 := N7.out.c 1 _ rfl
    have a2 := M7.out.c 0 _ rfl
    have a3 := M7.out.c 1 _ rfl
    go_wp2_with fail
    go_region_with (first
      | (go_at_call 8; refine (toNet_of n ((A0, c0), (A1, c1)) _ (HR.out.below (Below.drew B7.out)) HF.out.p HF.out.j HF.out.e).mono ?_; rintro e w10 ⟨u10, rfl, r10, b10⟩; have R10 := Aside0.mk r10; have B10 := Aside0.mk (below_more B7.out.drew b10); have R11 := Aside0.mk (RdNet.below (w := w7.drew) R7.out b10); have M10 := Aside0.mk ((M7.out.below (Below.refl _ _).drew).below b10); have m0 := M10.out.c 0 _ rfl; have m1 := M10.out.c 1 _ rfl; clear r10 b10)
      | (go_at_call 10; refine (eqNet_any n n ((A5, k5), (D5, m5)) u10 _ R11.out R10.out).mono ?_; rintro e w12 ⟨rfl, b12⟩; have B12 := Aside0.mk (below_more B10.out b12); rw [show decide (n = n) = true by simp]; clear b12))
    all_goals
      go_wp2
      go_ret
      exact ⟨rfl, B12.out⟩
end Go.Proofs.YtckcffjnffcjcaaDoor
