/- Proved: a call of FnExactDrive returns true and changes nothing that was there, whatever it is given. No conditions. -/
import Derived.Test.YtckcffjnffcjcaaNets
import Derived.Test.YtckcffjnffcjcaaDr9
import Derived.Test.YtckcffjnffcjcaaCut0
import Derived.Test.YtckcffjnffcjcaaTos2
set_option linter.unusedVariables false
set_option linter.unusedSimpArgs false
namespace Go.Proofs.Ytckcffjnffcjcaa
open Go.RowKit Go.Proofs.YtckcffjnffcjcaaW.PrintWords
set_option maxRecDepth 100000 in
set_option maxHeartbeats 40000000 in
theorem FnExactDrive_walk (u : (Option Addr × Nat) × (Option Addr × Nat)) (n : NetT) (u1 : Option Addr × Nat) (x1 : List Int) (u2 : Unit) (s : SpotT) (u3 : Unit) (y : Int) (w : World) (hr : RdNet 65 w u n) (hg : GNet n) (e1 : Kd.C (Kd.int .i64) w u1.1 x1.length x1 ∧ x1.length ≤ u1.2) (g1 : x1.length ≤ 9223372036854775807 ∧ ∀ y ∈ x1, I64 y) (e2 : True) (g2 : GSpot s) (e3 : True) (g3 : I64 y) :
    Calls Try.prog 16 #[.agg #[.slice u.1.1 n.pieces.length u.1.2, .slice u.2.1 n.joints.length u.2.2], .slice u1.1 x1.length u1.2, .agg #[.int .i64 s.piece, .int .i64 s.at_, .int .i64 s.way], .int .i64 y] w fun e w' => e = .returned (.bool true) ∧ Below w.heap.size w w' := by
  have HR := Aside0.mk hr
  have HG := Aside0.mk hg
  have HL := Aside0.mk e1.1
  have hxm := g1.1
  clear hr hg e1 g1
  obtain ⟨⟨A0, c0⟩, ⟨A1, c1⟩⟩ := u
  obtain ⟨A2, c2⟩ := u1
  simp only at HL ⊢
  obtain ⟨⟨zc, zf, zj, ⟨zp, za, zw⟩, zps⟩, hZ⟩ : ∃ Z, Z = driveR n x1 s y := ⟨_, rfl⟩
  have HZr := Aside0.mk hZ.symm
  clear hZ
  obtain ⟨W0, hW0, hN, hS, fb0, hsz⟩ := box2 w [.slice A0 n.pieces.length c0, .slice A1 n.joints.length c1] [.int .i64 s.piece, .int .i64 s.at_, .int .i64 s.way] 52 60
  have B0 := Aside0.mk fb0
  have HN := Aside0.mk hN
  have HS := Aside0.mk hS
  have HW := Aside0.mk hW0
  clear hW0 fb0 hN hS hsz
  by_cases hl1 : (1048576 : Int) < (x1.length : Int)
  · go_enter Try.func16, Try.ntmps16
    go_wp2
    go_ret
    exact ⟨rfl, below_two _ _ _⟩
  by_cases h : (1048576 : Int) - wNet n < 0
  · have e1 := Aside0.mk (cutZ_neg h)
    go_enter Try.func16, Try.ntmps16
    go_wp2_with (go_at_call 41; rw [← HW.out]; refine (szNet_of n ((A0, c0), (A1, c1)) _ (HR.out.below B0.out) HG.out).mono ?_; rintro e w1 ⟨rfl, b1⟩; rw [e1.out]; have B1 := Aside0.mk (below_more B0.out b1); clear b1)
    go_ret
    exact ⟨rfl, B1.out⟩
  · have e1 := Aside0.mk (cutZ_pos (x := (1048576 : Int) - wNet n) (by omega))
    have HF := Aside0.mk (NetFits.of HG.out (by omega))
    obtain ⟨z, hz⟩ : ∃ z : Int, z = 1048576 - wNet n := ⟨_, rfl⟩
    rw [← hz] at e1 h
    have HZ := Aside0.mk hz
    have HXL := Aside0.mk (show x1.length ≤ 1048576 by omega)
    clear hz
    go_enter Try.func16, Try.ntmps16
    go_wp2_with (go_at_call 41; rw [← HW.out]; refine (szNet_of n ((A0, c0), (A1, c1)) _ (HR.out.below B0.out) HG.out).mono ?_; rintro e w1 ⟨rfl, b1⟩; rw [← HZ.out, e1.out]; have B1 := Aside0.mk (below_more B0.out b1); have N1 := Aside0.mk (HN.out.below b1); have S1 := Aside0.mk (HS.out.below b1); clear b1)
    have HS1 : Aside0 (∀ W, Below w1.heap.size w1 W → (Below w1.heap.size w1 W ∧ W.cell? ⟨w.heap.size, 0, none⟩ = some (.slice A0 n.pieces.length c0) ∧ W.cell? ⟨w.heap.size, 1, none⟩ = some (.slice A1 n.joints.length c1) ∧ W.cell? ⟨w.heap.size + 1, 0, none⟩ = some (.int .i64 s.piece) ∧ W.cell? ⟨w.heap.size + 1, 1, none⟩ = some (.int .i64 s.at_) ∧ W.cell? ⟨w.heap.size + 1, 2, none⟩ = some (.int .i64 s.way))) :=
      ⟨fun W hb => ⟨hb, (N1.out.below hb).c 0 _ rfl, (N1.out.below hb).c 1 _ rfl, (S1.out.below hb).c 0 _ rfl, (S1.out.below hb).c 1 _ rfl, (S1.out.below hb).c 2 _ rfl⟩⟩
    have hN1l := N1.out.lt
    have hS1l := S1.out.lt
    go_cut [10] (fun s6 W5 => ∃ b5, s6 = .pointer (some ⟨b5, 0, none⟩) ∧ Aside0 (Below w.heap.size w W5) ∧ Aside0 (Bx W5 w.heap.size [.slice A0 n.pieces.length c0, .slice A1 n.joints.length c1]) ∧ Aside0 (Bx W5 (w.heap.size + 1) [.int .i64 s.piece, .int .i64 s.at_, .int .i64 s.way]) ∧ Aside0 (Bx W5 b5 [.int .i64 zc, .int .i64 zf, .int .i64 zj, .int .i64 zp, .int .i64 za, .int .i64 zw]))
    case first =>
      go_region_held3 (fun W => Below w1.heap.size w1 W ∧ W.cell? ⟨w.heap.size, 0, none⟩ = some (.slice A0 n.pieces.length c0) ∧ W.cell? ⟨w.heap.size, 1, none⟩ = some (.slice A1 n.joints.length c1) ∧ W.cell? ⟨w.heap.size + 1, 0, none⟩ = some (.int .i64 s.piece) ∧ W.cell? ⟨w.heap.size + 1, 1, none⟩ = some (.int .i64 s.at_) ∧ W.cell? ⟨w.heap.size + 1, 2, none⟩ = some (.int .i64 s.way))
        (first | (with_reducible assumption) | (with_reducible exact HS1.out _ (by with_reducible assumption)) | (with_reducible exact HS1.out _ (by repeat (first | (with_reducible assumption) | (with_reducible refine below_set ?_ (Below.size (by with_reducible assumption))) | (with_reducible refine below_set ?_ (Nat.le_refl _)) | (with_reducible refine below_set ?_ (by omega)) | (with_reducible refine below_alloc ?_ _) | (with_reducible exact Below.refl _ _) | (with_reducible refine below_drew ?_)))))
        (first
          | (go_at_call 43; go_split_ands; refine Calls.mono (toNet_of n ((A0, c0), (A1, c1)) _ ((HR.out.below B1.out).below (by assumption)) HF.out.p HF.out.j HF.out.e) ?_; rintro e w3 ⟨u3', rfl, r3, b3⟩; have R3 := Aside0.mk r3; have q3 : Below w1.heap.size w1 w3 := below_more (by assumption) b3; have z3 := q3.size; (first | (with_reducible have X3 := Aside0.mk (X0.out.below b3)) | (with_reducible have X3 := Aside0.mk ((Bx.new _ [.int .i64 0, .int .i64 0, .int .i64 0, .int .i64 0, .int .i64 0, .int .i64 0] 44).below b3)) | (with_reducible have X3 := Aside0.mk ((Bx.drew (Bx.new _ [.int .i64 0, .int .i64 0, .int .i64 0, .int .i64 0, .int .i64 0, .int .i64 0] 44)).below b3)) | skip); clear r3 b3)
          | (go_at_call 71; go_split_ands; refine Calls.mono (toIntS_any A2 c2 x1 _ (Kd.C_below (Kd.C_below HL.out B1.out) (by assumption)) HXL.out) ?_; rintro e w4 ⟨v4, rfl, r4, b3⟩; obtain ⟨A4, k4, rfl, _, rc4⟩ := Kd.R_reads r4; have L4 := Aside0.mk rc4; have R4 := Aside0.mk (RdNet.below (by first | (with_reducible exact R3.out) | (with_reducible exact R3.out.below (below_alloc (Below.refl _ _) _))) b3); have q4 : Below w1.heap.size w1 w4 := below_more (by assumption) b3; have z4 := q4.size; (first | (with_reducible have X4 := Aside0.mk (X3.out.below b3)) | (with_reducible have X4 := Aside0.mk ((Bx.new _ [.int .i64 0, .int .i64 0, .int .i64 0, .int .i64 0, .int .i64 0, .int .i64 0] 44).below b3)) | (with_reducible have X4 := Aside0.mk ((Bx.drew (Bx.new _ [.int .i64 0, .int .i64 0, .int .i64 0, .int .i64 0, .int .i64 0, .int .i64 0] 44)).below b3)) | skip); clear r4 rc4 b3)
          | (go_at_call 48; go_split_ands; refine Calls.mono (toSpot_any s _) ?_; rintro e w4b ⟨rfl, b3⟩; have R4b := Aside0.mk (RdNet.below (by first | (with_reducible exact R4.out) | (with_reducible exact R4.out.below (below_alloc (Below.refl _ _) _))) b3); have L4b := Aside0.mk (Kd.C_below (by first | (with_reducible exact L4.out) | (with_reducible exact Kd.C_below L4.out (below_alloc (Below.refl _ _) _))) b3); have q4b : Below w1.heap.size w1 w4b := below_more (by assumption) b3; have z4b := q4b.size; (first | (with_reducible have X4b := Aside0.mk (X4.out.below b3)) | (with_reducible have X4b := Aside0.mk ((Bx.new _ [.int .i64 0, .int .i64 0, .int .i64 0, .int .i64 0, .int .i64 0, .int .i64 0] 44).below b3)) | (with_reducible have X4b := Aside0.mk ((Bx.drew (Bx.new _ [.int .i64 0, .int .i64 0, .int .i64 0, .int .i64 0, .int .i64 0, .int .i64 0] 44)).below b3)) | skip); clear b3)
          | (go_at_call 38; go_split_ands; refine Calls.mono (specDrive_any n u3' (A4, k4) x1 s y _ (by first | (with_reducible exact R4b.out) | (with_reducible exact R4b.out.below (below_alloc (Below.refl _ _) _))) (by first | (with_reducible exact L4b.out) | (with_reducible exact Kd.C_below L4b.out (below_alloc (Below.refl _ _) _))) HF.out) ?_; rintro e w5 ⟨rfl, b3⟩; rw [HZr.out]; simp only [drvV]; have q5 : Below w1.heap.size w1 w5 := below_more (by assumption) b3; have z5 := q5.size; (first | (with_reducible have X5 := Aside0.mk (X4b.out.below b3)) | (with_reducible have X5 := Aside0.mk ((Bx.new _ [.int .i64 0, .int .i64 0, .int .i64 0, .int .i64 0, .int .i64 0, .int .i64 0] 44).below b3)) | (with_reducible have X5 := Aside0.mk ((Bx.drew (Bx.new _ [.int .i64 0, .int .i64 0, .int .i64 0, .int .i64 0, .int .i64 0, .int .i64 0] 44)).below b3)) | skip); (first | (have x0 := X5.out.c 0 _ rfl; have xf0 := X5.out.f 0; have x1 := X5.out.c 1 _ rfl; have xf1 := X5.out.f 1; have x2 := X5.out.c 2 _ rfl; have xf2 := X5.out.f 2; have x3 := X5.out.c 3 _ rfl; have xf3 := X5.out.f 3; have x4 := X5.out.c 4 _ rfl; have xf4 := X5.out.f 4; have x5 := X5.out.c 5 _ rfl; have xf5 := X5.out.f 5; have xl := X5.out.lt) | skip); have B5 := Aside0.mk (below_more B1.out q5); have N5 := Aside0.mk (N1.out.below q5); have S5 := Aside0.mk (S1.out.below q5); clear b3))
      all_goals
        try go_wp2_with fail
        go_meet
        case rel =>
          first
            | (with_reducible refine ⟨_, rfl, ⟨below_alloc B5.out _⟩, ⟨N5.out.alloc _⟩, ⟨S5.out.alloc _⟩, ⟨Bx.new' _ _ _ rfl⟩⟩; done)
            | (refine ⟨_, rfl, ⟨?_⟩, ⟨?_⟩, ⟨?_⟩, ⟨?_⟩⟩
               · repeat (first | (with_reducible exact B5.out) | (with_reducible refine below_set ?_ (by omega)))
               · repeat (first | (with_reducible exact N5.out) | (with_reducible refine Bx.far ?_ (by omega) _))
               · repeat (first | (with_reducible exact S5.out) | (with_reducible refine Bx.far ?_ (by omega) _))
               · exact (((((((X5.out.set (i := 0) (by simp) _).set (i := 1) (by simp) _).set (i := 2) (by simp) _).set (i := 3) (by simp) _).set (i := 4) (by simp) _).set (i := 5) (by simp) _)))
    case rest =>
    obtain ⟨b5, rfl, B5', N5', S5', Z5⟩ := hcut
    have a0 := N5'.out.c 0 _ rfl
    have a1 := N5'.out.c 1 _ rfl
    go_wp2_with fail
    refine Calls.mono (toNet_of n ((A0, c0), (A1, c1)) _ (HR.out.below B5'.out) HF.out.p HF.out.j HF.out.e) ?_
    rintro e w6 ⟨u6, rfl, r6, b6⟩
    obtain ⟨⟨⟨A6, k6⟩, ⟨D6, m6⟩⟩, hu6⟩ : ∃ u, u = u6 := ⟨_, rfl⟩
    subst hu6
    have R6 := Aside0.mk r6
    have B6 := Aside0.mk (below_more B5'.out b6)
    have N6 := Aside0.mk (N5'.out.below b6)
    have S6 := Aside0.mk (S5'.out.below b6)
    have Z6 := Aside0.mk (Z5.out.below b6)
    clear r6 b6 a0 a1
    go_wp2_with fail
    refine Calls.mono (toIntS_any A2 c2 x1 _ (Kd.C_below HL.out (below_alloc B6.out _)) HXL.out) ?_
    rintro e w7 ⟨v7, rfl, r7, b7⟩
    obtain ⟨A7, k7, rfl, _, rc7⟩ := Kd.R_reads r7
    have L7 := Aside0.mk rc7
    have B7 := Aside0.mk (below_more (below_alloc B6.out (.cells #[.slice A6 n.pieces.length k6, .slice D6 n.joints.length m6] 35)) b7)
    have N7 := Aside0.mk ((N6.out.alloc (.cells #[.slice A6 n.pieces.length k6, .slice D6 n.joints.length m6] 35)).below b7)
    have S7 := Aside0.mk ((S6.out.alloc (.cells #[.slice A6 n.pieces.length k6, .slice D6 n.joints.length m6] 35)).below b7)
    have Z7 := Aside0.mk ((Z6.out.alloc (.cells #[.slice A6 n.pieces.length k6, .slice D6 n.joints.length m6] 35)).below b7)
    have M7 := Aside0.mk ((Bx.new w6 [.slice A6 n.pieces.length k6, .slice D6 n.joints.length m6] 35).below b7)
    have R7 := Aside0.mk ((R6.out.below (below_alloc (Below.refl _ _) (.cells #[.slice A6 n.pieces.length k6, .slice D6 n.joints.length m6] 35))).below b7)
    clear r7 b7 rc7
    go_wp2_with fail
    have HS7 : Aside0 (∀ W, Below w7.heap.size w7 W → (Below w7.heap.size w7 W ∧ W.cell? ⟨w6.heap.size, 0, none⟩ = some (.slice A6 n.pieces.length k6) ∧ W.cell? ⟨w6.heap.size, 1, none⟩ = some (.slice D6 n.joints.length m6) ∧ W.cell? ⟨w.heap.size + 1, 0, none⟩ = some (.int .i64 s.piece) ∧ W.cell? ⟨w.heap.size + 1, 1, none⟩ = some (.int .i64 s.at_) ∧ W.cell? ⟨w.heap.size + 1, 2, none⟩ = some (.int .i64 s.way))) :=
      ⟨fun W hb => ⟨hb, (M7.out.below hb).c 0 _ rfl, (M7.out.below hb).c 1 _ rfl, (S7.out.below hb).c 0 _ rfl, (S7.out.below hb).c 1 _ rfl, (S7.out.below hb).c 2 _ rfl⟩⟩
    have hN7l := N7.out.lt
    have hM7l := M7.out.lt
    have hZ7l := Z7.out.lt
    have hB7l := B7.out.size
    have L7u : Aside0 (Kd.C (Kd.int .i64) w7 A7 x1.length x1) := L7
    go_cut [13] (fun s8 W10 => ∃ b9, s8 = .pointer (some ⟨b9, 0, none⟩) ∧ Aside0 (Below w.heap.size w W10) ∧ Aside0 (Below w7.heap.size w7 W10) ∧ Aside0 (Bx W10 w.heap.size [.slice A0 n.pieces.length c0, .slice A1 n.joints.length c1]) ∧ Aside0 (Bx W10 w6.heap.size [.slice A6 n.pieces.length k6, .slice D6 n.joints.length m6]) ∧ Aside0 (Bx W10 b5 [.int .i64 zc, .int .i64 zf, .int .i64 zj, .int .i64 zp, .int .i64 za, .int .i64 zw]) ∧ Aside0 (Bx W10 b9 [.int .i64 zc, .int .i64 zf, .int .i64 zj, .int .i64 zp, .int .i64 za, .int .i64 zw]))
    case first =>
      go_region_held3 (fun W => Below w7.heap.size w7 W ∧ W.cell? ⟨w6.heap.size, 0, none⟩ = some (.slice A6 n.pieces.length k6) ∧ W.cell? ⟨w6.heap.size, 1, none⟩ = some (.slice D6 n.joints.length m6) ∧ W.cell? ⟨w.heap.size + 1, 0, none⟩ = some (.int .i64 s.piece) ∧ W.cell? ⟨w.heap.size + 1, 1, none⟩ = some (.int .i64 s.at_) ∧ W.cell? ⟨w.heap.size + 1, 2, none⟩ = some (.int .i64 s.way))
        (first | (with_reducible assumption) | (with_reducible exact HS7.out _ (by with_reducible assumption)) | (with_reducible exact HS7.out _ (by repeat (first | (with_reducible assumption) | (with_reducible refine below_set ?_ (Below.size (by with_reducible assumption))) | (with_reducible refine below_set ?_ (Nat.le_refl _)) | (with_reducible refine below_set ?_ (by omega)) | (with_reducible refine below_alloc ?_ _) | (with_reducible exact Below.refl _ _) | (with_reducible refine below_drew ?_)))))
        (first
          | (go_at_call 48; go_split_ands; refine Calls.mono (toSpot_any s _) ?_; rintro e w8 ⟨rfl, b3⟩; have q8 : Below w7.heap.size w7 w8 := below_more (by assumption) b3; have z8 := q8.size; (first | (with_reducible have X8 := Aside0.mk (X0.out.below b3)) | (with_reducible have X8 := Aside0.mk ((Bx.new _ [.int .i64 0, .int .i64 0, .int .i64 0, .int .i64 0, .int .i64 0, .int .i64 0] 44).below b3)) | (with_reducible have X8 := Aside0.mk ((Bx.drew (Bx.new _ [.int .i64 0, .int .i64 0, .int .i64 0, .int .i64 0, .int .i64 0, .int .i64 0] 44)).below b3)) | skip); clear b3)
          | (go_at_call 37; go_split_ands; refine Calls.mono (implDrive_any n ((A6, k6), (D6, m6)) (A7, k7) x1 s y _ (R7.out.below (by assumption)) (Kd.C_below L7.out (by assumption)) HF.out) ?_; rintro e w9 ⟨rfl, b3⟩; rw [HZr.out]; simp only [drvV]; have q9 : Below w7.heap.size w7 w9 := below_more (by assumption) b3; have z9 := q9.size; (first | (with_reducible have X5 := Aside0.mk (X8.out.below b3)) | (with_reducible have X5 := Aside0.mk ((Bx.new _ [.int .i64 0, .int .i64 0, .int .i64 0, .int .i64 0, .int .i64 0, .int .i64 0] 44).below b3)) | (with_reducible have X5 := Aside0.mk ((Bx.drew (Bx.new _ [.int .i64 0, .int .i64 0, .int .i64 0, .int .i64 0, .int .i64 0, .int .i64 0] 44)).below b3)) | skip); (first | (have x0 := X5.out.c 0 _ rfl; have xf0 := X5.out.f 0; have x1 := X5.out.c 1 _ rfl; have xf1 := X5.out.f 1; have x2 := X5.out.c 2 _ rfl; have xf2 := X5.out.f 2; have x3 := X5.out.c 3 _ rfl; have xf3 := X5.out.f 3; have x4 := X5.out.c 4 _ rfl; have xf4 := X5.out.f 4; have x5 := X5.out.c 5 _ rfl; have xf5 := X5.out.f 5; have xl := X5.out.lt) | skip); have B9 := Aside0.mk (below_more B7.out q9); have N9 := Aside0.mk (N7.out.below q9); have M9 := Aside0.mk (M7.out.below q9); have Z9 := Aside0.mk (Z7.out.below q9); clear b3))
      all_goals
        try go_wp2_with fail
        go_meet
        case rel =>
          first
            | (with_reducible refine ⟨_, rfl, ⟨below_alloc B9.out _⟩, ⟨below_alloc q9 _⟩, ⟨N9.out.alloc _⟩, ⟨M9.out.alloc _⟩, ⟨Z9.out.alloc _⟩, ⟨Bx.new' _ _ _ rfl⟩⟩; done)
            | (refine ⟨_, rfl, ⟨?_⟩, ⟨?_⟩, ⟨?_⟩, ⟨?_⟩, ⟨?_⟩, ⟨?_⟩⟩
               · repeat (first | (with_reducible exact B9.out) | (with_reducible refine below_set ?_ (by omega)))
               · repeat (first | (with_reducible exact q9) | (with_reducible refine below_set ?_ (by omega)))
               · repeat (first | (with_reducible exact N9.out) | (with_reducible refine Bx.far ?_ (by omega) _))
               · repeat (first | (with_reducible exact M9.out) | (with_reducible refine Bx.far ?_ (by omega) _))
               · repeat (first | (with_reducible exact Z9.out) | (with_reducible refine Bx.far ?_ (by omega) _))
               · exact (((((((X5.out.set (i := 0) (by simp) _).set (i := 1) (by simp) _).set (i := 2) (by simp) _).set (i := 3) (by simp) _).set (i := 4) (by simp) _).set (i := 5) (by simp) _)))
    case rest =>
    obtain ⟨b9, rfl, B10, q10, N10, M10, Z10, Y10⟩ := hcut
    have z0 := Z10.out.c 0 _ rfl
    have y0 := Y10.out.c 0 _ rfl
    have z1 := Z10.out.c 1 _ rfl
    have y1 := Y10.out.c 1 _ rfl
    have z2 := Z10.out.c 2 _ rfl
    have y2 := Y10.out.c 2 _ rfl
    have z3 := Z10.out.c 3 _ rfl
    have y3 := Y10.out.c 3 _ rfl
    have z4 := Z10.out.c 4 _ rfl
    have y4 := Y10.out.c 4 _ rfl
    have z5 := Z10.out.c 5 _ rfl
    have y5 := Y10.out.c 5 _ rfl
    go_wp2_with fail
    refine Calls.mono (eqDriven_same zc zf zj zp za zw _) ?_
    rintro e w11 ⟨rfl, b11⟩
    have B11 := Aside0.mk (below_more B10.out b11)
    have q11 := Aside0.mk (below_more q10.out b11)
    have N11 := Aside0.mk (N10.out.below b11)
    have M11 := Aside0.mk (M10.out.below b11)
    clear b11 z0 y0 z1 y1 z2 y2 z3 y3 z4 y4 z5 y5
    go_wp2_with fail
    have HS9 : Aside0 (∀ W, Below w11.heap.size w11 W → (Below w11.heap.size w11 W ∧ W.cell? ⟨w6.heap.size, 0, none⟩ = some (.slice A6 n.pieces.length k6) ∧ W.cell? ⟨w6.heap.size, 1, none⟩ = some (.slice D6 n.joints.length m6) ∧ W.cell? ⟨w.heap.size, 0, none⟩ = some (.slice A0 n.pieces.length c0) ∧ W.cell? ⟨w.heap.size, 1, none⟩ = some (.slice A1 n.joints.length c1))) :=
      ⟨fun W hb => ⟨hb, (M11.out.below hb).c 0 _ rfl, (M11.out.below hb).c 1 _ rfl, (N11.out.below hb).c 0 _ rfl, (N11.out.below hb).c 1 _ rfl⟩⟩
    go_region_held3 (fun W => Below w11.heap.size w11 W ∧ W.cell? ⟨w6.heap.size, 0, none⟩ = some (.slice A6 n.pieces.length k6) ∧ W.cell? ⟨w6.heap.size, 1, none⟩ = some (.slice D6 n.joints.length m6) ∧ W.cell? ⟨w.heap.size, 0, none⟩ = some (.slice A0 n.pieces.length c0) ∧ W.cell? ⟨w.heap.size, 1, none⟩ = some (.slice A1 n.joints.length c1))
      (first | (with_reducible assumption) | exact HS9.out _ (by with_reducible assumption) | (with_reducible exact HS9.out _ (Below.drew (Below.refl _ _))))
      (first
        | (go_at_call 43; go_split_ands; refine Calls.mono (toNet_of n ((A0, c0), (A1, c1)) _ ((HR.out.below B11.out).below (by assumption)) HF.out.p HF.out.j HF.out.e) ?_; rintro e w12 ⟨u12, rfl, r12, b3⟩; have R12 := Aside0.mk r12; have q12 : Below w11.heap.size w11 w12 := below_more (by assumption) b3; clear r12 b3)
        | (go_at_call 46; go_split_ands; refine Calls.mono (eqNet_any n n ((A6, k6), (D6, m6)) u12 _ ((R7.out.below q11.out).below (by assumption)) R12.out) ?_; rintro e w13 ⟨rfl, b3⟩; rw [show decide (n = n) = true by simp]; have q13 : Below w11.heap.size w11 w13 := below_more (by assumption) b3; have q14 := Aside0.mk q13; clear b3))
    go_wp2_with (first
      | (go_at_call 71; refine Calls.mono (toIntS_any A2 c2 x1 _ (Kd.C_below (Kd.C_below HL.out B11.out) q14.out) HXL.out) ?_; rintro e w15 ⟨v15, rfl, r15, b3⟩; obtain ⟨A8, k8, rfl, _, rc8⟩ := Kd.R_reads r15; have L8 := Aside0.mk rc8; have q15 := Aside0.mk (below_more q14.out b3); clear r15 rc8 b3)
      | (go_at_call 73; refine Calls.mono (eqIntS_any A7 k7 x1 A8 k8 x1 _ (Kd.C_below L7.out (below_more q11.out q15.out)) L8.out) ?_; rintro e w16 ⟨rfl, b3⟩; rw [show decide (x1 = x1) = true by simp]; have q16 := Aside0.mk (below_more q15.out b3); clear b3))
    go_ret
    exact ⟨rfl, below_more B11.out q16.out⟩
end Go.Proofs.Ytckcffjnffcjcaa
