/- Proved: a call of FnExactReach returns true and changes nothing that was there, whatever it is given. No conditions. -/
import Derived.Test.YtckcffjnffcjcaaMarkNet
import Derived.Test.YtckcffjnffcjcaaReach
import Derived.Test.YtckcffjnffcjcaaTos2
set_option linter.unusedVariables false
set_option linter.unusedSimpArgs false
namespace Go.Proofs.Ytckcffjnffcjcaa
open Go.RowKit Go.Proofs.YtckcffjnffcjcaaW.PrintWords
set_option maxRecDepth 100000 in
set_option maxHeartbeats 2000000 in
theorem FnExactReach_walk (u : (Option Addr × Nat) × (Option Addr × Nat)) (n : NetT) (u1 : Unit) (x1 : SpotT) (u2 : Unit) (x2 : Int) (w : World) (hr : RdNet 65 w u n) (hg : GNet n) (e1 : True) (g1 : GSpot x1) (e2 : True) (g2 : I64 x2) :
    Calls Try.prog 24 #[.agg #[.slice u.1.1 n.pieces.length u.1.2, .slice u.2.1 n.joints.length u.2.2], .agg #[.int .i64 x1.piece, .int .i64 x1.at_, .int .i64 x1.way], .int .i64 x2] w fun e w' => e = .returned (.bool true) ∧ Below w.heap.size w w' := by
  have HR := Aside0.mk hr
  have HG := Aside0.mk hg
  clear hr hg
  obtain ⟨⟨A0, c0⟩, ⟨A1, c1⟩⟩ := u
  obtain ⟨W0, hW0⟩ : ∃ W0 : World, W0 = ((w.alloc (.cells #[.slice A0 n.pieces.length c0, .slice A1 n.joints.length c1] 52)).alloc (.cells #[.int .i64 x1.piece, .int .i64 x1.at_, .int .i64 x1.way] 60)) := ⟨_, rfl⟩
  have N0 : Aside0 (Bx W0 w.heap.size [.slice A0 n.pieces.length c0, .slice A1 n.joints.length c1]) := ⟨by rw [hW0]; exact (Bx.new w [.slice A0 n.pieces.length c0, .slice A1 n.joints.length c1] 52).alloc _⟩
  have S1_0 : Aside0 (Bx W0 (w.heap.size + 1) [.int .i64 x1.piece, .int .i64 x1.at_, .int .i64 x1.way]) := ⟨by rw [hW0]; exact (Bx.new' (w.alloc (.cells #[.slice A0 n.pieces.length c0, .slice A1 n.joints.length c1] 52)) [.int .i64 x1.piece, .int .i64 x1.at_, .int .i64 x1.way] 60 (by simp))⟩
  have B0 := Aside0.mk (show Below w.heap.size w W0 by rw [hW0]; exact below_alloc (below_alloc (Below.refl _ _) _) _)
  have HW := Aside0.mk hW0
  clear hW0
  by_cases h : (1048576 : Int) - wNet n < 0
  · have e1 := Aside0.mk (cutZ_neg h)
    go_enter Try.func24, Try.ntmps24
    go_wp2_with (go_at_call 41; rw [← HW.out]; refine (szNet_of n ((A0, c0), (A1, c1)) _ (HR.out.below B0.out) HG.out).mono ?_; rintro e w1 ⟨rfl, b1⟩; rw [e1.out]; have B1 := Aside0.mk (below_more B0.out b1); clear b1)
    go_ret
    exact ⟨rfl, B1.out⟩
  have e1 := Aside0.mk (cutZ_pos (x := (1048576 : Int) - wNet n) (by omega))
  have HF := Aside0.mk (NetFits.of HG.out (by omega))
  obtain ⟨z, hz⟩ : ∃ z : Int, z = 1048576 - wNet n := ⟨_, rfl⟩
  have hz1 : z ≤ 1048576 := by omega
  rw [← hz] at e1 h
  have HZ := Aside0.mk hz
  clear hz
  obtain ⟨Z, hZ⟩ : ∃ Z, Z = reachV n x1 x2 := ⟨_, rfl⟩
  have HZr := Aside0.mk hZ.symm
  have HZb := Aside0.mk (show Z.length ≤ 1000000000000 by rw [hZ]; exact reachV_len _ _ _)
  clear hZ
  go_enter Try.func24, Try.ntmps24
  go_wp2_with ((go_at_call 41; rw [← HW.out]; refine (szNet_of n ((A0, c0), (A1, c1)) _ (HR.out.below B0.out) HG.out).mono ?_; rintro e w1 ⟨rfl, b1⟩; rw [← HZ.out, e1.out]; have B1 := Aside0.mk (below_more B0.out b1); have N1 := Aside0.mk (N0.out.below b1); have S1_1 := Aside0.mk (S1_0.out.below b1); clear b1))
  have HSa : Aside0 (∀ W, Below w1.heap.size w1 W → (Below w1.heap.size w1 W ∧ W.cell? ⟨w.heap.size, 0, none⟩ = some (.slice A0 n.pieces.length c0) ∧ W.cell? ⟨w.heap.size, 1, none⟩ = some (.slice A1 n.joints.length c1) ∧ W.cell? ⟨w.heap.size + 1, 0, none⟩ = some (.int .i64 x1.piece) ∧ W.cell? ⟨w.heap.size + 1, 1, none⟩ = some (.int .i64 x1.at_) ∧ W.cell? ⟨w.heap.size + 1, 2, none⟩ = some (.int .i64 x1.way))) :=
    ⟨fun W hb => ⟨hb, (N1.out.below hb).c 0 _ rfl, (N1.out.below hb).c 1 _ rfl, (S1_1.out.below hb).c 0 _ rfl, (S1_1.out.below hb).c 1 _ rfl, (S1_1.out.below hb).c 2 _ rfl⟩⟩
  go_region_held3 (fun W => Below w1.heap.size w1 W ∧ W.cell? ⟨w.heap.size, 0, none⟩ = some (.slice A0 n.pieces.length c0) ∧ W.cell? ⟨w.heap.size, 1, none⟩ = some (.slice A1 n.joints.length c1) ∧ W.cell? ⟨w.heap.size + 1, 0, none⟩ = some (.int .i64 x1.piece) ∧ W.cell? ⟨w.heap.size + 1, 1, none⟩ = some (.int .i64 x1.at_) ∧ W.cell? ⟨w.heap.size + 1, 2, none⟩ = some (.int .i64 x1.way))
    (first | assumption | exact HSa.out _ (by assumption) | exact HSa.out _ (Below.drew (Below.refl _ _)))
    (first
      | (go_at_call 43; go_split_ands; refine Calls.mono (toNet_of n ((A0, c0), (A1, c1)) _ ((HR.out.below B1.out).below (by assumption)) HF.out.p HF.out.j HF.out.e) ?_; rintro e wan ⟨ua, rfl, r3, b3⟩; have Ran := Aside0.mk r3; have qan : Below w1.heap.size w1 wan := below_more (by assumption) b3; clear r3 b3)
      | (go_at_call 48; go_split_ands; refine Calls.mono (toSpot_any x1 _) ?_; rintro e wa1 ⟨rfl, b3⟩; have Ka01_0 := Aside0.mk (Ran.out.below b3); have qa1 : Below w1.heap.size w1 wa1 := below_more (by assumption) b3; clear b3)
      | (go_at_call 99; go_split_ands; refine Calls.mono (specReach_any n ua x1 x2 _ Ka01_0.out  HF.out) ?_; rintro e w5 ⟨v5, rfl, r5, b3⟩; rw [HZr.out] at r5; obtain ⟨A5, k5, rfl, _, rc5⟩ := Kd.R_reads r5; have V5 := Aside0.mk rc5; have q5 : Below w1.heap.size w1 w5 := below_more (by assumption) b3; have B5 := Aside0.mk (below_more B1.out q5); have N5 := Aside0.mk (N1.out.below q5); have S1_5 := Aside0.mk (S1_1.out.below q5); clear b3 r5 rc5))
  have a0 := N5.out.c 0 _ rfl
  have a1 := N5.out.c 1 _ rfl
  go_wp2_with fail
  refine Calls.mono (toNet_own n ((A0, c0), (A1, c1)) _ (HR.out.below B5.out) HF.out) ?_
  rintro e w6 ⟨u6, rfl, r6, b6⟩
  obtain ⟨⟨⟨A6, k6⟩, ⟨D6, m6⟩⟩, hu6⟩ : ∃ u, u = u6 := ⟨_, rfl⟩
  subst hu6
  have D6' := Aside0.mk b6
  have hs56 := b6.size
  have hBs := B5.out.size
  clear a0 a1
  go_wp2_with fail
  obtain ⟨W7, hW7⟩ : ∃ W7 : World, W7 = w6.alloc (.cells #[.slice A6 n.pieces.length k6, .slice D6 n.joints.length m6] 35) := ⟨_, rfl⟩
  obtain ⟨b7, hb7⟩ : ∃ b7, b7 = w6.heap.size := ⟨_, rfl⟩
  have D7 : Aside0 (Below w5.heap.size w5 W7) := ⟨by rw [hW7]; exact below_alloc D6'.out _⟩
  have M7 : Aside0 (Bx W7 b7 [.slice A6 n.pieces.length k6, .slice D6 n.joints.length m6]) := ⟨by rw [hW7, hb7]; exact Bx.new w6 _ 35⟩
  have O7 : Aside0 (OwnNet w5.heap.size b7 W7 ((A6, k6), (D6, m6)) n) := ⟨by rw [hW7, hb7]; exact r6.below (below_alloc (Below.refl _ _) _)⟩
  have hs7 : b7 < W7.heap.size := M7.out.lt
  have hb7' : w5.heap.size ≤ b7 := by rw [hb7]; exact hs56
  rw [← hW7]
  rw [← hb7]
  clear hW7 hb7 r6 b6 D6'
  have hsW := D7.out.size
  have HSb : Aside0 (∀ W, Below W7.heap.size W7 W → (Below W7.heap.size W7 W ∧ W.cell? ⟨b7, 0, none⟩ = some (.slice A6 n.pieces.length k6) ∧ W.cell? ⟨b7, 1, none⟩ = some (.slice D6 n.joints.length m6) ∧ W.cell? ⟨w.heap.size + 1, 0, none⟩ = some (.int .i64 x1.piece) ∧ W.cell? ⟨w.heap.size + 1, 1, none⟩ = some (.int .i64 x1.at_) ∧ W.cell? ⟨w.heap.size + 1, 2, none⟩ = some (.int .i64 x1.way))) :=
    ⟨fun W hb => ⟨hb, (M7.out.below hb).c 0 _ rfl, (M7.out.below hb).c 1 _ rfl, ((S1_5.out.below D7.out).below hb).c 0 _ rfl, ((S1_5.out.below D7.out).below hb).c 1 _ rfl, ((S1_5.out.below D7.out).below hb).c 2 _ rfl⟩⟩
  go_region_held3 (fun W => Below W7.heap.size W7 W ∧ W.cell? ⟨b7, 0, none⟩ = some (.slice A6 n.pieces.length k6) ∧ W.cell? ⟨b7, 1, none⟩ = some (.slice D6 n.joints.length m6) ∧ W.cell? ⟨w.heap.size + 1, 0, none⟩ = some (.int .i64 x1.piece) ∧ W.cell? ⟨w.heap.size + 1, 1, none⟩ = some (.int .i64 x1.at_) ∧ W.cell? ⟨w.heap.size + 1, 2, none⟩ = some (.int .i64 x1.way))
    (first | assumption | exact HSb.out _ (by assumption) | exact HSb.out _ (Below.drew (Below.refl _ _)))
    (first
      | (go_at_call 48; go_split_ands; refine Calls.mono (toSpot_any x1 _) ?_; rintro e w8_1 ⟨rfl, b3⟩; have q8_1 : Below W7.heap.size W7 w8_1 := below_more (by assumption) b3; clear b3)
      | (go_at_call 100; go_split_ands; refine Calls.mono (implReach_any n ((A6, k6), (D6, m6)) x1 x2 _ (O7.out.rd.below (by assumption))  HF.out) ?_; rintro e w9 ⟨v9, rfl, r9, b3⟩; rw [HZr.out] at r9; have q9 : Below W7.heap.size W7 w9 := below_more (by assumption) b3; have G9 := Aside0.mk (Kd.R_lower (base' := W7.heap.size) r9 (Below.size (by assumption))); have D9 := Aside0.mk (below_more D7.out q9); have M9 := Aside0.mk (M7.out.below q9); have O9 := Aside0.mk (O7.out.below q9); clear b3 r9))
  obtain ⟨A9, k9, rfl, _, _⟩ := Kd.R_reads G9.out
  go_wp2_with fail
  refine Calls.mono (eqSpotS_any A9 k9 Z A5 k5 Z _ (Kd.R_reads' G9.out).2.2 (Kd.C_below V5.out D9.out)) ?_
  rintro e w10 ⟨rfl, b10⟩
  rw [show decide (Z = Z) = true by simp]
  have D10 := Aside0.mk (below_more D9.out b10)
  have M10 := Aside0.mk (M9.out.below b10)
  have O10 := Aside0.mk (O9.out.below b10)
  have G10 := Aside0.mk (Kd.R_below G9.out b10)
  clear b10
  go_wp2_with fail
  have HSc : Aside0 (∀ W, Below w10.heap.size w10 W → (Below w10.heap.size w10 W ∧ W.cell? ⟨b7, 0, none⟩ = some (.slice A6 n.pieces.length k6) ∧ W.cell? ⟨b7, 1, none⟩ = some (.slice D6 n.joints.length m6) ∧ W.cell? ⟨w.heap.size, 0, none⟩ = some (.slice A0 n.pieces.length c0) ∧ W.cell? ⟨w.heap.size, 1, none⟩ = some (.slice A1 n.joints.length c1))) :=
    ⟨fun W hb => ⟨hb, (M10.out.below hb).c 0 _ rfl, (M10.out.below hb).c 1 _ rfl, ((N5.out.below D10.out).below hb).c 0 _ rfl, ((N5.out.below D10.out).below hb).c 1 _ rfl⟩⟩
  go_region_held3 (fun W => Below w10.heap.size w10 W ∧ W.cell? ⟨b7, 0, none⟩ = some (.slice A6 n.pieces.length k6) ∧ W.cell? ⟨b7, 1, none⟩ = some (.slice D6 n.joints.length m6) ∧ W.cell? ⟨w.heap.size, 0, none⟩ = some (.slice A0 n.pieces.length c0) ∧ W.cell? ⟨w.heap.size, 1, none⟩ = some (.slice A1 n.joints.length c1))
    (first | assumption | exact HSc.out _ (by assumption) | exact HSc.out _ (Below.drew (Below.refl _ _)))
    (first
      | (go_at_call 43; go_split_ands; refine Calls.mono (toNet_of n ((A0, c0), (A1, c1)) _ ((HR.out.below (below_more B5.out D10.out)).below (by assumption)) HF.out.p HF.out.j HF.out.e) ?_; rintro e w11 ⟨u11, rfl, r11, b3⟩; have R11 := Aside0.mk r11; have q11 : Below w10.heap.size w10 w11 := below_more (by assumption) b3; clear r11 b3)
      | (go_at_call 46; go_split_ands; refine Calls.mono (eqNet_any n n ((A6, k6), (D6, m6)) u11 _ (O10.out.rd.below (by assumption)) R11.out) ?_; rintro e w12 ⟨rfl, b3⟩; rw [show decide (n = n) = true by simp]; have q12 : Below w10.heap.size w10 w12 := below_more (by assumption) b3; have D12 := Aside0.mk (below_more D10.out q12); have M12 := Aside0.mk (M10.out.below q12); have O12 := Aside0.mk (O10.out.below q12); have G12 := Aside0.mk (Kd.R_below G10.out q12); clear b3))
  have m0 := M12.out.c 0 _ rfl
  have m1 := M12.out.c 1 _ rfl
  have hs13 := D12.out.size
  have hm13 := M12.out.lt
  go_wp2_with fail
  refine Calls.mono (markNet_any w5.heap.size b7 n ((A6, k6), (D6, m6)) 1 _ O12.out HF.out hs13 (by omega) (by omega) (by omega)) ?_
  rintro e w15 ⟨⟨k15, rfl, hk0, hk1⟩, b15⟩
  have D15 := Aside0.mk (b15.below D12.out hs13)
  have hgs := b15.size
  have G15 := Aside0.mk (Kd.R_step (R_from G12.out) (fun k hk hl => b15.block k hl (.inr (by omega))))
  clear b15 m0 m1
  have hkn : ¬ k15 < 0 := by omega
  go_wp2_with fail
  refine Calls.mono (eqSpotS_any A9 k9 Z A5 k5 Z _ (Kd.R_reads' G15.out).2.2 (Kd.C_below V5.out D15.out)) ?_
  rintro e w17 ⟨rfl, b17⟩
  rw [show decide (Z = Z) = true by simp]
  have D17 := Aside0.mk (below_more D15.out b17)
  have G17 := Aside0.mk (Kd.R_below G15.out b17)
  have HZl := HZb.out
  clear b17
  go_wp2_with fail
  refine Calls.mono (markSpotS_any _ _ _ Z 1 _ _ G17.out (Below.refl _ _) (by omega) (by omega)) ?_
  rintro e w18 ⟨rfl, r18, b18, _⟩
  have D18 := Aside0.mk (below_weaken D17.out (by omega) b18)
  have G18 := Aside0.mk r18
  clear r18 b18
  have hheld : ∀ W, Below w18.heap.size w18 W → Calls Try.prog 103 #[.slice A9 Z.length k9, .int .i64 1] W fun e w' => e = .returned (.int .i64 (1 + 3 * (Z.length : Int))) ∧ Below W.heap.size W w' := by
    intro W hW
    obtain ⟨e1, e2, e3⟩ := Kd.R_reads' G18.out
    have := heldSpotS_any A9 k9 (marksSpot 1 Z.length) 1 W (Kd.C_below e3 hW) (by rw [marksSpot_length]) (by omega) (by rw [marksSpot_length]; omega)
    rw [marksSpot_length] at this
    exact this
  have HH := Aside0.mk hheld
  clear hheld
  go_wp2_with fail
  refine Calls.mono (HH.out _ (Below.refl _ _)) ?_
  rintro e w19 ⟨rfl, b19⟩
  have D19 := Aside0.mk (below_more D18.out b19)
  have E19 := Aside0.mk b19
  have hneg : ¬ (1 + 3 * (Z.length : Int) < 0) := by omega
  clear b19
  go_wp2_with fail
  have HSh : Aside0 (∀ W, Below w19.heap.size w19 W → (Below w19.heap.size w19 W ∧ W.cell? ⟨w.heap.size, 0, none⟩ = some (.slice A0 n.pieces.length c0) ∧ W.cell? ⟨w.heap.size, 1, none⟩ = some (.slice A1 n.joints.length c1) ∧ W.cell? ⟨w.heap.size + 1, 0, none⟩ = some (.int .i64 x1.piece) ∧ W.cell? ⟨w.heap.size + 1, 1, none⟩ = some (.int .i64 x1.at_) ∧ W.cell? ⟨w.heap.size + 1, 2, none⟩ = some (.int .i64 x1.way))) :=
    ⟨fun W hb => ⟨hb, ((N5.out.below D19.out).below hb).c 0 _ rfl, ((N5.out.below D19.out).below hb).c 1 _ rfl, ((S1_5.out.below D19.out).below hb).c 0 _ rfl, ((S1_5.out.below D19.out).below hb).c 1 _ rfl, ((S1_5.out.below D19.out).below hb).c 2 _ rfl⟩⟩
  go_region_held3 (fun W => Below w19.heap.size w19 W ∧ W.cell? ⟨w.heap.size, 0, none⟩ = some (.slice A0 n.pieces.length c0) ∧ W.cell? ⟨w.heap.size, 1, none⟩ = some (.slice A1 n.joints.length c1) ∧ W.cell? ⟨w.heap.size + 1, 0, none⟩ = some (.int .i64 x1.piece) ∧ W.cell? ⟨w.heap.size + 1, 1, none⟩ = some (.int .i64 x1.at_) ∧ W.cell? ⟨w.heap.size + 1, 2, none⟩ = some (.int .i64 x1.way))
    (first | assumption | exact HSh.out _ (by assumption) | exact HSh.out _ (Below.drew (Below.refl _ _)))
    (first
      | (go_at_call 43; go_split_ands; refine Calls.mono (toNet_of n ((A0, c0), (A1, c1)) _ ((HR.out.below (Aside0.mk (below_more B5.out D19.out)).out).below (by assumption)) HF.out.p HF.out.j HF.out.e) ?_; rintro e whn ⟨uh, rfl, r3, b3⟩; have Rhn := Aside0.mk r3; have qhn : Below w19.heap.size w19 whn := below_more (by assumption) b3; clear r3 b3)
      | (go_at_call 48; go_split_ands; refine Calls.mono (toSpot_any x1 _) ?_; rintro e wh1 ⟨rfl, b3⟩; have Kh01_0 := Aside0.mk (Rhn.out.below b3); have qh1 : Below w19.heap.size w19 wh1 := below_more (by assumption) b3; clear b3)
      | (go_at_call 100; go_split_ands; refine Calls.mono (implReach_any n uh x1 x2 _ Kh01_0.out  HF.out) ?_; rintro e w20 ⟨v20, rfl, r20, b3⟩; rw [HZr.out] at r20; obtain ⟨A20, k20, rfl, _, rc20⟩ := Kd.R_reads r20; have V20 := Aside0.mk rc20; have q20 : Below w19.heap.size w19 w20 := below_more (by assumption) b3; have D20 := Aside0.mk (below_more D19.out q20); have E20 := Aside0.mk (below_more E19.out q20); clear b3 r20 rc20))
  go_wp2_with fail
  refine Calls.mono (eqSpotS_any A20 k20 Z A5 k5 Z _ V20.out (Kd.C_below V5.out D20.out)) ?_
  rintro e w21 ⟨rfl, b21⟩
  rw [show decide (Z = Z) = true by simp]
  have D21 := Aside0.mk (below_more D20.out b21)
  have E21 := Aside0.mk (below_more E20.out b21)
  clear b21
  go_wp2_with fail
  refine Calls.mono (HH.out _ E21.out) ?_
  rintro e w22 ⟨rfl, b22⟩
  have D22 := Aside0.mk (below_more D21.out b22)
  clear b22
  go_wp2
  go_ret
  exact ⟨rfl, below_more B5.out D22.out⟩
end Go.Proofs.Ytckcffjnffcjcaa
