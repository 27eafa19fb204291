/- Proved: a call of FnExactStretch returns true and changes nothing that was there, whatever it is given. No conditions. -/
import Derived.Test.YtckcffjnffcjcaaMarkNet
import Derived.Test.YtckcffjnffcjcaaStr1
import Derived.Test.YtckcffjnffcjcaaStr2
import Derived.Test.YtckcffjnffcjcaaPathC
import Derived.Test.YtckcffjnffcjcaaTos2
set_option linter.unusedVariables false
set_option linter.unusedSimpArgs false
namespace Go.Proofs.Ytckcffjnffcjcaa
open Go.RowKit Go.Proofs.YtckcffjnffcjcaaW.PrintWords
theorem specStretch_x (n : NetT) (u : (Option Addr × Nat) × (Option Addr × Nat)) (ok : Bool) (far : Int) (l : List StepT) (m : List LieT) (A : Option Addr) (c : Nat) (B : Option Addr) (d : Nat) (a : SpotT) (w : World) (hr : RdNet 67 w u n) (hp : Kd.C kStep w A l.length l) (hf : NetFits n) :
    Calls Try.prog 93 #[.agg #[.slice u.1.1 n.pieces.length u.1.2, .slice u.2.1 n.joints.length u.2.2], .agg #[.bool ok, .int .i64 far, .slice A l.length c, .slice B m.length d], .agg #[.int .i64 a.piece, .int .i64 a.at_, .int .i64 a.way]] w
      fun e w' => ∃ v, e = .returned v ∧ Kd.R kPart 89 w' w.heap.size (fun _ => True) v (stretchV n ⟨ok, far, l, m⟩ a) ∧ Below w.heap.size w w' := specStretch_any n u ⟨ok, far, l, m⟩ ((A, c), (B, d)) a w hr hp hf
theorem implStretch_x (n : NetT) (u : (Option Addr × Nat) × (Option Addr × Nat)) (ok : Bool) (far : Int) (l : List StepT) (m : List LieT) (A : Option Addr) (c : Nat) (B : Option Addr) (d : Nat) (a : SpotT) (w : World) (hr : RdNet 67 w u n) (hp : Kd.C kStep w A l.length l) (hf : NetFits n) :
    Calls Try.prog 92 #[.agg #[.slice u.1.1 n.pieces.length u.1.2, .slice u.2.1 n.joints.length u.2.2], .agg #[.bool ok, .int .i64 far, .slice A l.length c, .slice B m.length d], .agg #[.int .i64 a.piece, .int .i64 a.at_, .int .i64 a.way]] w
      fun e w' => ∃ v, e = .returned v ∧ Kd.R kPart 89 w' w.heap.size (fun _ => True) v (stretchV n ⟨ok, far, l, m⟩ a) ∧ Below w.heap.size w w' := implStretch_any n u ⟨ok, far, l, m⟩ ((A, c), (B, d)) a w hr hp hf
theorem Bx.moved {W W1 : World} {b : Nat} {vs : List Value} (h : Bx W b vs) (e : W1.heap[b]? = W.heap[b]?) (hs : W.heap.size ≤ W1.heap.size) : Bx W1 b vs := by
  refine ⟨Nat.lt_of_lt_of_le h.lt hs, fun i v hv => ?_, fun i => ?_⟩
  · have := h.c i v hv
    unfold World.cell? at this ⊢
    simp only at this ⊢
    rw [e]; exact this
  · have := h.f i
    unfold World.frozen? at this ⊢
    simp only at this ⊢
    rw [e]; exact this
set_option maxRecDepth 100000 in
set_option maxHeartbeats 8000000 in
theorem FnExactStretch_walk (u : (Option Addr × Nat) × (Option Addr × Nat)) (n : NetT) (u1 : (Option Addr × Nat) × (Option Addr × Nat)) (x1 : PathT) (u2 : Unit) (x2 : SpotT) (w : World) (hr : RdNet 65 w u n) (hg : GNet n) (e1 : RdPath w u1 x1) (g1 : GPath x1) (e2 : True) (g2 : GSpot x2) :
    Calls Try.prog 22 #[.agg #[.slice u.1.1 n.pieces.length u.1.2, .slice u.2.1 n.joints.length u.2.2], .agg #[.bool x1.ok, .int .i64 x1.far, .slice u1.1.1 x1.steps.length u1.1.2, .slice u1.2.1 x1.lies.length u1.2.2], .agg #[.int .i64 x2.piece, .int .i64 x2.at_, .int .i64 x2.way]] w fun e w' => e = .returned (.bool true) ∧ Below w.heap.size w w' := by
  have HR := Aside0.mk hr
  have HG := Aside0.mk hg
  obtain ⟨⟨A0, c0⟩, ⟨A1, c1⟩⟩ := u
  obtain ⟨⟨P0, p0⟩, ⟨P1, p1⟩⟩ := u1
  obtain ⟨ok, far, l, m⟩ := x1
  have HX := Aside0.mk e1.1.1
  have HY := Aside0.mk e1.2.1
  have hxm := g1.2.1.1
  have hym := g1.2.2.1
  clear hr hg e1 g1
  simp only at HX HY hxm hym ⊢
  obtain ⟨W0, hW0⟩ : ∃ W0 : World, W0 = ((w.alloc (.cells #[.slice A0 n.pieces.length c0, .slice A1 n.joints.length c1] 52)).alloc (.cells #[.bool ok, .int .i64 far, .slice P0 l.length p0, .slice P1 m.length p1] 115)).alloc (.cells #[.int .i64 x2.piece, .int .i64 x2.at_, .int .i64 x2.way] 60) := ⟨_, rfl⟩
  have N0 : Aside0 (Bx W0 w.heap.size [.slice A0 n.pieces.length c0, .slice A1 n.joints.length c1]) := ⟨by rw [hW0]; exact ((Bx.new w [.slice A0 n.pieces.length c0, .slice A1 n.joints.length c1] 52).alloc _).alloc _⟩
  have P0_ : Aside0 (Bx W0 (w.heap.size + 1) [.bool ok, .int .i64 far, .slice P0 l.length p0, .slice P1 m.length p1]) := ⟨by rw [hW0]; exact (Bx.new' (w.alloc (.cells #[.slice A0 n.pieces.length c0, .slice A1 n.joints.length c1] 52)) [.bool ok, .int .i64 far, .slice P0 l.length p0, .slice P1 m.length p1] 115 (by simp)).alloc _⟩
  have S0 : Aside0 (Bx W0 (w.heap.size + 2) [.int .i64 x2.piece, .int .i64 x2.at_, .int .i64 x2.way]) := ⟨by rw [hW0]; exact Bx.new' ((w.alloc (.cells #[.slice A0 n.pieces.length c0, .slice A1 n.joints.length c1] 52)).alloc (.cells #[.bool ok, .int .i64 far, .slice P0 l.length p0, .slice P1 m.length p1] 115)) [.int .i64 x2.piece, .int .i64 x2.at_, .int .i64 x2.way] 60 (by simp)⟩
  have B0 := Aside0.mk (show Below w.heap.size w W0 by rw [hW0]; exact below_three _ _ _ _)
  have HW := Aside0.mk hW0
  clear hW0
  by_cases h : (1048576 : Int) - wNet n < 0
  · have e1 := Aside0.mk (cutZ_neg h)
    go_enter Try.func22, Try.ntmps22
    go_wp2_with (go_at_call 41; rw [← HW.out]; (with_reducible refine Calls.mono (szNet_of n ((A0, c0), (A1, c1)) _ (HR.out.below B0.out) HG.out) ?_); rintro e w1 ⟨rfl, b1⟩; rw [e1.out]; have B1 := Aside0.mk (below_more B0.out b1); clear b1)
    go_ret
    exact ⟨rfl, B1.out⟩
  have e1 := Aside0.mk (cutZ_pos (x := (1048576 : Int) - wNet n) (by omega))
  have HF := Aside0.mk (NetFits.of HG.out (by omega))
  obtain ⟨z, hz⟩ : ∃ z : Int, z = 1048576 - wNet n := ⟨_, rfl⟩
  have hz1 : z ≤ 1048576 := by omega
  have hz0 : 0 ≤ z := by omega
  have hzn : ¬ z < 0 := by omega
  rw [← hz] at e1
  have HZ := Aside0.mk hz
  clear hz h
  by_cases h2 : z - (l.length : Int) - (m.length : Int) < 0
  · have e2 := Aside0.mk (cutZ_neg h2)
    go_enter Try.func22, Try.ntmps22
    go_wp2_with (first | (go_at_call 41; rw [← HW.out]; (with_reducible refine Calls.mono (szNet_of n ((A0, c0), (A1, c1)) _ (HR.out.below B0.out) HG.out) ?_); rintro e w1 ⟨rfl, b1⟩; rw [← HZ.out, e1.out]; have B1 := Aside0.mk (below_more B0.out b1); have P1_ := Aside0.mk (P0_.out.below b1); clear b1; have q0 := P1_.out.c 0 _ rfl; have q1 := P1_.out.c 1 _ rfl; have q2 := P1_.out.c 2 _ rfl; have q3 := P1_.out.c 3 _ rfl) | (go_at_call 94; (with_reducible refine Calls.mono (szPath_any ok far P0 p0 l.length P1 p1 m.length z _ hz0 hz1 hxm hym) ?_); rintro e w2 ⟨rfl, b2⟩; rw [e2.out]; have B2 := Aside0.mk (below_more B1.out b2); clear b2))
    go_ret
    exact ⟨rfl, B2.out⟩
  have e2 := Aside0.mk (cutZ_pos (x := z - (l.length : Int) - (m.length : Int)) (by omega))
  have hll : l.length ≤ 1048576 := by omega
  have hlm : m.length ≤ 1048576 := by omega
  obtain ⟨y, hy⟩ : ∃ y, y = z - (l.length : Int) - (m.length : Int) := ⟨_, rfl⟩
  have hyn : ¬ y < 0 := by omega
  rw [← hy] at e2
  have HYY := Aside0.mk hy
  clear hy h2
  obtain ⟨Z, hZ⟩ : ∃ Z, Z = stretchV n ⟨ok, far, l, m⟩ x2 := ⟨_, rfl⟩
  have HZr := Aside0.mk hZ.symm
  have HZb := Aside0.mk (show Z.length ≤ 1000000000000 by rw [hZ]; exact stretchV_len _ _ _)
  clear hZ
  go_enter Try.func22, Try.ntmps22
  go_wp2_with (first | (go_at_call 41; rw [← HW.out]; (with_reducible refine Calls.mono (szNet_of n ((A0, c0), (A1, c1)) _ (HR.out.below B0.out) HG.out) ?_); rintro e w0 ⟨rfl, b1⟩; rw [← HZ.out, e1.out]; have B1 := Aside0.mk (below_more B0.out b1); have P1_ := Aside0.mk (P0_.out.below b1); have N1_ := Aside0.mk (N0.out.below b1); have S1_ := Aside0.mk (S0.out.below b1); clear b1; have q0 := P1_.out.c 0 _ rfl; have q1 := P1_.out.c 1 _ rfl; have q2 := P1_.out.c 2 _ rfl; have q3 := P1_.out.c 3 _ rfl) | (go_at_call 94; (with_reducible refine Calls.mono (szPath_any ok far P0 p0 l.length P1 p1 m.length z _ hz0 hz1 hxm hym) ?_); rintro e w1 ⟨rfl, b2⟩; rw [← HYY.out, e2.out]; have B2 := Aside0.mk (below_more B1.out b2); have PP1 := Aside0.mk (P1_.out.below b2); have N1 := Aside0.mk (N1_.out.below b2); have S1 := Aside0.mk (S1_.out.below b2); clear b2 q0 q1 q2 q3))
  have HSa : Aside0 (∀ W, Below w1.heap.size w1 W → (Below w1.heap.size w1 W ∧ W.cell? ⟨w.heap.size, 0, none⟩ = some (.slice A0 n.pieces.length c0) ∧ W.cell? ⟨w.heap.size, 1, none⟩ = some (.slice A1 n.joints.length c1) ∧ W.cell? ⟨w.heap.size + 1, 0, none⟩ = some (.bool ok) ∧ W.cell? ⟨w.heap.size + 1, 1, none⟩ = some (.int .i64 far) ∧ W.cell? ⟨w.heap.size + 1, 2, none⟩ = some (.slice P0 l.length p0) ∧ W.cell? ⟨w.heap.size + 1, 3, none⟩ = some (.slice P1 m.length p1) ∧ W.cell? ⟨w.heap.size + 2, 0, none⟩ = some (.int .i64 x2.piece) ∧ W.cell? ⟨w.heap.size + 2, 1, none⟩ = some (.int .i64 x2.at_) ∧ W.cell? ⟨w.heap.size + 2, 2, none⟩ = some (.int .i64 x2.way))) :=
    ⟨fun W hb => ⟨hb, (N1.out.below hb).c 0 _ rfl, (N1.out.below hb).c 1 _ rfl, (PP1.out.below hb).c 0 _ rfl, (PP1.out.below hb).c 1 _ rfl, (PP1.out.below hb).c 2 _ rfl, (PP1.out.below hb).c 3 _ rfl, (S1.out.below hb).c 0 _ rfl, (S1.out.below hb).c 1 _ rfl, (S1.out.below hb).c 2 _ rfl⟩⟩
  go_region_held3 (fun W => Below w1.heap.size w1 W ∧ W.cell? ⟨w.heap.size, 0, none⟩ = some (.slice A0 n.pieces.length c0) ∧ W.cell? ⟨w.heap.size, 1, none⟩ = some (.slice A1 n.joints.length c1) ∧ W.cell? ⟨w.heap.size + 1, 0, none⟩ = some (.bool ok) ∧ W.cell? ⟨w.heap.size + 1, 1, none⟩ = some (.int .i64 far) ∧ W.cell? ⟨w.heap.size + 1, 2, none⟩ = some (.slice P0 l.length p0) ∧ W.cell? ⟨w.heap.size + 1, 3, none⟩ = some (.slice P1 m.length p1) ∧ W.cell? ⟨w.heap.size + 2, 0, none⟩ = some (.int .i64 x2.piece) ∧ W.cell? ⟨w.heap.size + 2, 1, none⟩ = some (.int .i64 x2.at_) ∧ W.cell? ⟨w.heap.size + 2, 2, none⟩ = some (.int .i64 x2.way))
    (first | assumption | (with_reducible exact HSa.out _ (by assumption)) | (with_reducible exact HSa.out _ (Below.drew (Below.refl _ _))))
    (first
      | (go_at_call 43; go_split_ands; (with_reducible refine Calls.mono (toNet_of n ((A0, c0), (A1, c1)) _ ((HR.out.below B2.out).below (by assumption)) HF.out.p HF.out.j HF.out.e) ?_); rintro e wan ⟨ua, rfl, r3, b3⟩; have Ran := Aside0.mk r3; have qan : Below w1.heap.size w1 wan := below_more (by assumption) b3; clear r3 b3)
      | (go_at_call 95; go_split_ands; (with_reducible refine Calls.mono (toPath_any ok far l m P0 p0 P1 p1 _ (Kd.C_below HX.out (below_more B2.out (by assumption))) (Kd.C_below HY.out (below_more B2.out (by assumption))) hll hlm) ?_); rintro e wap ⟨vsa, vla, rfl, r3, r4, b3⟩; obtain ⟨Asa, csa, rfl, _, rc3⟩ := Kd.R_reads r3; obtain ⟨Ala, cla, rfl, _, rc4⟩ := Kd.R_reads r4; have YSa := Aside0.mk rc3; have YLa := Aside0.mk rc4; have Ran2 := Aside0.mk (Ran.out.below b3); have qap : Below w1.heap.size w1 wap := below_more (by assumption) b3; clear r3 r4 b3 rc3 rc4)
      | (go_at_call 48; go_split_ands; (with_reducible refine Calls.mono (toSpot_any x2 _) ?_); rintro e was ⟨rfl, b3⟩; have Ran3 := Aside0.mk (Ran2.out.below b3); have YSa2 := Aside0.mk (Kd.C_below YSa.out b3); have qas : Below w1.heap.size w1 was := below_more (by assumption) b3; clear b3)
      | (go_at_call 93; go_split_ands; (with_reducible refine Calls.mono (specStretch_x n ua ok far l m Asa csa Ala cla x2 _ Ran3.out YSa2.out HF.out) ?_); rintro e w5 ⟨v5, rfl, r5, b3⟩; rw [HZr.out] at r5; obtain ⟨A5, k5, rfl, _, rc5⟩ := Kd.R_reads r5; have V5 := Aside0.mk rc5; have q5 : Below w1.heap.size w1 w5 := below_more (by assumption) b3; have B5 := Aside0.mk (below_more B2.out q5); have N5 := Aside0.mk (N1.out.below q5); have P5 := Aside0.mk (PP1.out.below q5); have S5 := Aside0.mk (S1.out.below q5); clear b3 r5 rc5))
  have a0 := N5.out.c 0 _ rfl
  have a1 := N5.out.c 1 _ rfl
  go_wp2_with fail
  (with_reducible refine Calls.mono (toNet_own n ((A0, c0), (A1, c1)) _ (HR.out.below B5.out) HF.out) ?_)
  rintro e w6 ⟨u6, rfl, r6, b6⟩
  obtain ⟨⟨⟨A6, k6⟩, ⟨D6, m6⟩⟩, hu6⟩ : ∃ u, u = u6 := ⟨_, rfl⟩
  subst hu6
  have hs56 := b6.size
  clear a0 a1
  obtain ⟨W7, hW7⟩ : ∃ W7 : World, W7 = w6.alloc (.cells #[.slice A6 n.pieces.length k6, .slice D6 n.joints.length m6] 35) := ⟨_, rfl⟩
  obtain ⟨b7, hb7⟩ : ∃ b7, b7 = w6.heap.size := ⟨_, rfl⟩
  have D7 : Aside0 (Below w5.heap.size w5 W7) := ⟨by rw [hW7]; exact below_alloc b6 _⟩
  have M7 : Aside0 (Bx W7 b7 [.slice A6 n.pieces.length k6, .slice D6 n.joints.length m6]) := ⟨by rw [hW7, hb7]; exact Bx.new w6 _ 35⟩
  have O7 : Aside0 (OwnNet w5.heap.size b7 W7 ((A6, k6), (D6, m6)) n) := ⟨by rw [hW7, hb7]; exact r6.below (below_alloc (Below.refl _ _) _)⟩
  have HS7 := Aside0.mk (show b7 < W7.heap.size from M7.out.lt)
  have HB7 := Aside0.mk (show w5.heap.size ≤ b7 by rw [hb7]; exact hs56)
  have HW7 := Aside0.mk hW7
  have HE7 := Aside0.mk hb7
  have P7 := Aside0.mk (P5.out.below D7.out)
  have pp0 := P7.out.c 0 _ rfl; have pp1 := P7.out.c 1 _ rfl; have pp2 := P7.out.c 2 _ rfl; have pp3 := P7.out.c 3 _ rfl
  rw [hW7] at pp0 pp1 pp2 pp3
  clear hW7 hb7 r6 b6 hs56
  go_wp2_with fail
  rw [← HW7.out]
  try rw [← HE7.out]
  clear pp0 pp1 pp2 pp3
  (with_reducible refine Calls.mono (toPath_any ok far l m P0 p0 P1 p1 _ (Kd.C_below HX.out (below_more B5.out D7.out)) (Kd.C_below HY.out (below_more B5.out D7.out)) hll hlm) ?_)
  rintro e w8 ⟨vs, vl, rfl, rs, rl, b8'⟩
  obtain ⟨As, cs, rfl, _, _⟩ := Kd.R_reads rs
  obtain ⟨Al, cl, rfl, _, _⟩ := Kd.R_reads rl
  obtain ⟨W8, hW8⟩ : ∃ W8 : World, W8 = w8.alloc (.cells #[.bool ok, .int .i64 far, .slice As l.length cs, .slice Al m.length cl] 108) := ⟨_, rfl⟩
  obtain ⟨b8, hb8⟩ : ∃ b8, b8 = w8.heap.size := ⟨_, rfl⟩
  have q8 : Below W7.heap.size W7 W8 := by rw [hW8]; exact below_alloc b8' _
  have D8 := Aside0.mk (below_more D7.out q8)
  have M8 := Aside0.mk (M7.out.below q8)
  have O8 := Aside0.mk (O7.out.below q8)
  have X8 : Aside0 (Bx W8 b8 [.bool ok, .int .i64 far, .slice As l.length cs, .slice Al m.length cl]) := ⟨by rw [hW8, hb8]; exact Bx.new w8 _ 108⟩
  have RS8 : Aside0 (Kd.R kStep 85 W8 W7.heap.size (fun _ => True) (.slice As l.length cs) l) := ⟨by rw [hW8]; exact Kd.R_alloc rs _⟩
  have RL8 : Aside0 (Kd.R kLie 111 W8 W7.heap.size (fun _ => True) (.slice Al m.length cl) m) := ⟨by rw [hW8]; exact Kd.R_alloc rl _⟩
  have HB8 := Aside0.mk (show W7.heap.size ≤ b8 by rw [hb8]; exact b8'.size)
  have HS8 := Aside0.mk (show b8 < W8.heap.size from X8.out.lt)
  have LS := Aside0.mk (show ∀ k, (Value.slice As l.length cs).ownBlock = some k → W7.heap.size ≤ k ∧ k < b8 from fun k hk => ⟨Kd.R_base rs k hk, by rw [hb8]; exact Kd.R_lt rs k hk⟩)
  have LL := Aside0.mk (show ∀ k, (Value.slice Al m.length cl).ownBlock = some k → W7.heap.size ≤ k ∧ k < b8 from fun k hk => ⟨Kd.R_base rl k hk, by rw [hb8]; exact Kd.R_lt rl k hk⟩)
  have HW8 := Aside0.mk hW8
  have HE8 := Aside0.mk hb8
  have m80 := M8.out.c 0 _ rfl; have m81 := M8.out.c 1 _ rfl
  have S8 := Aside0.mk (S5.out.below D8.out)
  clear hW8 hb8 rs rl b8' q8
  go_wp2_with fail
  try rw [← HW8.out]
  try rw [← HE8.out]
  clear m80 m81
  have HSb : Aside0 (∀ W, Below W8.heap.size W8 W → (Below W8.heap.size W8 W ∧ W.cell? ⟨b7, 0, none⟩ = some (.slice A6 n.pieces.length k6) ∧ W.cell? ⟨b7, 1, none⟩ = some (.slice D6 n.joints.length m6) ∧ W.cell? ⟨b8, 0, none⟩ = some (.bool ok) ∧ W.cell? ⟨b8, 1, none⟩ = some (.int .i64 far) ∧ W.cell? ⟨b8, 2, none⟩ = some (.slice As l.length cs) ∧ W.cell? ⟨b8, 3, none⟩ = some (.slice Al m.length cl) ∧ W.cell? ⟨w.heap.size + 2, 0, none⟩ = some (.int .i64 x2.piece) ∧ W.cell? ⟨w.heap.size + 2, 1, none⟩ = some (.int .i64 x2.at_) ∧ W.cell? ⟨w.heap.size + 2, 2, none⟩ = some (.int .i64 x2.way))) :=
    ⟨fun W hb => ⟨hb, (M8.out.below hb).c 0 _ rfl, (M8.out.below hb).c 1 _ rfl, (X8.out.below hb).c 0 _ rfl, (X8.out.below hb).c 1 _ rfl, (X8.out.below hb).c 2 _ rfl, (X8.out.below hb).c 3 _ rfl, (S8.out.below hb).c 0 _ rfl, (S8.out.below hb).c 1 _ rfl, (S8.out.below hb).c 2 _ rfl⟩⟩
  go_region_held3 (fun W => Below W8.heap.size W8 W ∧ W.cell? ⟨b7, 0, none⟩ = some (.slice A6 n.pieces.length k6) ∧ W.cell? ⟨b7, 1, none⟩ = some (.slice D6 n.joints.length m6) ∧ W.cell? ⟨b8, 0, none⟩ = some (.bool ok) ∧ W.cell? ⟨b8, 1, none⟩ = some (.int .i64 far) ∧ W.cell? ⟨b8, 2, none⟩ = some (.slice As l.length cs) ∧ W.cell? ⟨b8, 3, none⟩ = some (.slice Al m.length cl) ∧ W.cell? ⟨w.heap.size + 2, 0, none⟩ = some (.int .i64 x2.piece) ∧ W.cell? ⟨w.heap.size + 2, 1, none⟩ = some (.int .i64 x2.at_) ∧ W.cell? ⟨w.heap.size + 2, 2, none⟩ = some (.int .i64 x2.way))
    (first | assumption | (with_reducible exact HSb.out _ (by assumption)) | (with_reducible exact HSb.out _ (Below.drew (Below.refl _ _))))
    (first
      | (go_at_call 48; go_split_ands; (with_reducible refine Calls.mono (toSpot_any x2 _) ?_); rintro e wbs ⟨rfl, b3⟩; have qbs : Below W8.heap.size W8 wbs := below_more (by assumption) b3; clear b3)
      | (go_at_call 92; go_split_ands; (with_reducible refine Calls.mono (implStretch_x n ((A6, k6), (D6, m6)) ok far l m As cs Al cl x2 _ (O8.out.rd.below (by assumption)) (Kd.C_below (Kd.R_reads' RS8.out).2.2 (by assumption)) HF.out) ?_); rintro e w9 ⟨v9, rfl, r9, b3⟩; rw [HZr.out] at r9; have q9 : Below W8.heap.size W8 w9 := below_more (by assumption) b3; have G9 := Aside0.mk (Kd.R_lower (base' := W8.heap.size) r9 (Below.size (by assumption))); have D9 := Aside0.mk (below_more D8.out q9); have M9 := Aside0.mk (M8.out.below q9); have O9 := Aside0.mk (O8.out.below q9); have X9 := Aside0.mk (X8.out.below q9); have RS9 := Aside0.mk (Kd.R_below RS8.out q9); have RL9 := Aside0.mk (Kd.R_below RL8.out q9); have HQ9 := Aside0.mk q9.size; clear b3 r9))
  obtain ⟨A9, k9, rfl, _, _⟩ := Kd.R_reads G9.out
  go_wp2_with fail
  (with_reducible refine Calls.mono (eqPartS_any A9 k9 Z A5 k5 Z _ (Kd.R_reads' G9.out).2.2 (Kd.C_below V5.out D9.out)) ?_)
  rintro e w10 ⟨rfl, b10⟩
  rw [show decide (Z = Z) = true by simp]
  have D10 := Aside0.mk (below_more D9.out b10)
  have M10 := Aside0.mk (M9.out.below b10)
  have O10 := Aside0.mk (O9.out.below b10)
  have X10 := Aside0.mk (X9.out.below b10)
  have RS10 := Aside0.mk (Kd.R_below RS9.out b10)
  have RL10 := Aside0.mk (Kd.R_below RL9.out b10)
  have G10 := Aside0.mk (Kd.R_below G9.out b10)
  clear b10
  go_wp2_with fail
  have HSc : Aside0 (∀ W, Below w10.heap.size w10 W → (Below w10.heap.size w10 W ∧ W.cell? ⟨b7, 0, none⟩ = some (.slice A6 n.pieces.length k6) ∧ W.cell? ⟨b7, 1, none⟩ = some (.slice D6 n.joints.length m6) ∧ W.cell? ⟨w.heap.size, 0, none⟩ = some (.slice A0 n.pieces.length c0) ∧ W.cell? ⟨w.heap.size, 1, none⟩ = some (.slice A1 n.joints.length c1))) :=
    ⟨fun W hb => ⟨hb, (M10.out.below hb).c 0 _ rfl, (M10.out.below hb).c 1 _ rfl, ((N5.out.below D10.out).below hb).c 0 _ rfl, ((N5.out.below D10.out).below hb).c 1 _ rfl⟩⟩
  go_region_held3 (fun W => Below w10.heap.size w10 W ∧ W.cell? ⟨b7, 0, none⟩ = some (.slice A6 n.pieces.length k6) ∧ W.cell? ⟨b7, 1, none⟩ = some (.slice D6 n.joints.length m6) ∧ W.cell? ⟨w.heap.size, 0, none⟩ = some (.slice A0 n.pieces.length c0) ∧ W.cell? ⟨w.heap.size, 1, none⟩ = some (.slice A1 n.joints.length c1))
    (first | assumption | (with_reducible exact HSc.out _ (by assumption)) | (with_reducible exact HSc.out _ (Below.drew (Below.refl _ _))))
    (first
      | (go_at_call 43; go_split_ands; (with_reducible refine Calls.mono (toNet_of n ((A0, c0), (A1, c1)) _ ((HR.out.below (below_more B5.out D10.out)).below (by assumption)) HF.out.p HF.out.j HF.out.e) ?_); rintro e w11 ⟨u11, rfl, r3, b3⟩; have R11 := Aside0.mk r3; have q11 : Below w10.heap.size w10 w11 := below_more (by assumption) b3; clear r3 b3)
      | (go_at_call 46; go_split_ands; (with_reducible refine Calls.mono (eqNet_any n n ((A6, k6), (D6, m6)) u11 _ (O10.out.rd.below (by assumption)) R11.out) ?_); rintro e w12 ⟨rfl, b3⟩; rw [show decide (n = n) = true by simp]; have q12 : Below w10.heap.size w10 w12 := below_more (by assumption) b3; have D12 := Aside0.mk (below_more D10.out q12); have M12 := Aside0.mk (M10.out.below q12); have O12 := Aside0.mk (O10.out.below q12); have X12 := Aside0.mk (X10.out.below q12); have RS12 := Aside0.mk (Kd.R_below RS10.out q12); have RL12 := Aside0.mk (Kd.R_below RL10.out q12); have G12 := Aside0.mk (Kd.R_below G10.out q12); clear b3))
  go_wp2_with fail
  have HSd : Aside0 (∀ W, Below w12.heap.size w12 W → (Below w12.heap.size w12 W ∧ W.cell? ⟨b8, 0, none⟩ = some (.bool ok) ∧ W.cell? ⟨b8, 1, none⟩ = some (.int .i64 far) ∧ W.cell? ⟨b8, 2, none⟩ = some (.slice As l.length cs) ∧ W.cell? ⟨b8, 3, none⟩ = some (.slice Al m.length cl) ∧ W.cell? ⟨w.heap.size + 1, 0, none⟩ = some (.bool ok) ∧ W.cell? ⟨w.heap.size + 1, 1, none⟩ = some (.int .i64 far) ∧ W.cell? ⟨w.heap.size + 1, 2, none⟩ = some (.slice P0 l.length p0) ∧ W.cell? ⟨w.heap.size + 1, 3, none⟩ = some (.slice P1 m.length p1))) :=
    ⟨fun W hb => ⟨hb, (X12.out.below hb).c 0 _ rfl, (X12.out.below hb).c 1 _ rfl, (X12.out.below hb).c 2 _ rfl, (X12.out.below hb).c 3 _ rfl, ((P5.out.below D12.out).below hb).c 0 _ rfl, ((P5.out.below D12.out).below hb).c 1 _ rfl, ((P5.out.below D12.out).below hb).c 2 _ rfl, ((P5.out.below D12.out).below hb).c 3 _ rfl⟩⟩
  go_region_held3 (fun W => Below w12.heap.size w12 W ∧ W.cell? ⟨b8, 0, none⟩ = some (.bool ok) ∧ W.cell? ⟨b8, 1, none⟩ = some (.int .i64 far) ∧ W.cell? ⟨b8, 2, none⟩ = some (.slice As l.length cs) ∧ W.cell? ⟨b8, 3, none⟩ = some (.slice Al m.length cl) ∧ W.cell? ⟨w.heap.size + 1, 0, none⟩ = some (.bool ok) ∧ W.cell? ⟨w.heap.size + 1, 1, none⟩ = some (.int .i64 far) ∧ W.cell? ⟨w.heap.size + 1, 2, none⟩ = some (.slice P0 l.length p0) ∧ W.cell? ⟨w.heap.size + 1, 3, none⟩ = some (.slice P1 m.length p1))
    (first | assumption | (with_reducible exact HSd.out _ (by assumption)) | (with_reducible exact HSd.out _ (Below.drew (Below.refl _ _))))
    (first
      | (go_at_call 95; go_split_ands; (with_reducible refine Calls.mono (toPath_any ok far l m P0 p0 P1 p1 _ (Kd.C_below HX.out (below_more (below_more B5.out D12.out) (by assumption))) (Kd.C_below HY.out (below_more (below_more B5.out D12.out) (by assumption))) hll hlm) ?_); rintro e w13 ⟨vsd, vld, rfl, r3, r4, b3⟩; obtain ⟨Asd, csd, rfl, _, rc3⟩ := Kd.R_reads r3; obtain ⟨Ald, cld, rfl, _, rc4⟩ := Kd.R_reads r4; have YSd := Aside0.mk rc3; have YLd := Aside0.mk rc4; have q13 : Below w12.heap.size w12 w13 := below_more (by assumption) b3; clear r3 r4 b3 rc3 rc4)
      | (go_at_call 96; go_split_ands; (with_reducible refine Calls.mono (eqPath_any ok far l m As cs Al cl Asd csd Ald cld _ (Kd.C_below (Kd.R_reads' RS12.out).2.2 (by assumption)) (Kd.C_below (Kd.R_reads' RL12.out).2.2 (by assumption)) YSd.out YLd.out) ?_); rintro e w14 ⟨rfl, b3⟩; have q14 : Below w12.heap.size w12 w14 := below_more (by assumption) b3; have D14 := Aside0.mk (below_more D12.out q14); have M14 := Aside0.mk (M12.out.below q14); have O14 := Aside0.mk (O12.out.below q14); have X14 := Aside0.mk (X12.out.below q14); have RS14 := Aside0.mk (Kd.R_below RS12.out q14); have RL14 := Aside0.mk (Kd.R_below RL12.out q14); have G14 := Aside0.mk (Kd.R_below G12.out q14); clear b3))
  have m0 := M14.out.c 0 _ rfl
  have m1 := M14.out.c 1 _ rfl
  have hs13 := D14.out.size
  have hm13 := M14.out.lt
  have hb7 := HB7.out
  have hs7 := HS7.out
  have hb8 := HB8.out
  go_wp2_with fail
  (with_reducible refine Calls.mono (markNet_any w5.heap.size b7 n ((A6, k6), (D6, m6)) 1 _ O14.out HF.out hs13 (by omega) (by omega) (by omega)) ?_)
  rintro e w15 ⟨⟨k15, rfl, hk0, hk1⟩, b15⟩
  have D15 := Aside0.mk (b15.below D14.out hs13)
  have hgs := b15.size
  have G15 := Aside0.mk (Kd.R_step (R_from G14.out) (fun k hk hl => b15.block k hl (.inr (by have h1 := HS8.out; omega))))
  have RS15 := Aside0.mk (Kd.R_mono (Kd.R_step (w1 := w15) (Kd.R_bound RS14.out) (fun k hk hl => b15.block k hl (.inr (by have h := hk.2.1; omega)))) (fun k hk => hk.1))
  have RL15 := Aside0.mk (Kd.R_mono (Kd.R_step (w1 := w15) (Kd.R_bound RL14.out) (fun k hk hl => b15.block k hl (.inr (by have h := hk.2.1; omega)))) (fun k hk => hk.1))
  have X15 := Aside0.mk (X14.out.moved (b15.block b8 X14.out.lt (.inr (by omega))) b15.size)
  clear b15 m0 m1
  have x0 := X15.out.c 0 _ rfl; have x1 := X15.out.c 1 _ rfl; have x2' := X15.out.c 2 _ rfl; have x3 := X15.out.c 3 _ rfl
  go_wp2_with fail
  (with_reducible refine Calls.mono (markPath_any W7.heap.size ok far (.slice As l.length cs) (.slice Al m.length cl) l m k15 _ _ RS15.out RL15.out (Below.refl _ _) (by have := X15.out.lt; omega) hk0 (by omega)) ?_)
  rintro e w16 ⟨rfl, b16, hkeep⟩
  have D16 := Aside0.mk (below_weaken D15.out (by omega) b16)
  have G16 := Aside0.mk (Kd.R_step G15.out (fun k hk hl => hkeep k hl (fun he => by have h1 := LS.out k he.symm; have h2 := HS8.out; omega) (fun he => by have h1 := LL.out k he.symm; have h2 := HS8.out; omega)))
  clear b16 hkeep x0 x1 x2' x3
  have hkn : ¬ k15 + 2 * (l.length : Int) + 2 * (m.length : Int) < 0 := by omega
  go_wp2_with fail
  (with_reducible refine Calls.mono (eqPartS_any A9 k9 Z A5 k5 Z _ (Kd.R_reads' G16.out).2.2 (Kd.C_below V5.out D16.out)) ?_)
  rintro e w17 ⟨rfl, b17⟩
  rw [show decide (Z = Z) = true by simp]
  have D17 := Aside0.mk (below_more D16.out b17)
  have G17 := Aside0.mk (Kd.R_below G16.out b17)
  have HZl := HZb.out
  clear b17
  go_wp2_with fail
  (with_reducible refine Calls.mono (markPartS_any _ _ _ Z 1 _ _ G17.out (Below.refl _ _) (by omega) (by omega)) ?_)
  rintro e w18 ⟨rfl, r18, b18, _⟩
  have D18 := Aside0.mk (below_weaken D17.out (by have h1 := D8.out.size; omega) b18)
  have G18 := Aside0.mk r18
  clear r18 b18
  have hheld : ∀ W, Below w18.heap.size w18 W → Calls Try.prog 85 #[.slice A9 Z.length k9, .int .i64 1] W fun e w' => e = .returned (.int .i64 (1 + 3 * (Z.length : Int))) ∧ Below W.heap.size W w' := by
    intro W hW
    obtain ⟨e1, e2, e3⟩ := Kd.R_reads' G18.out
    have := heldPartS_any A9 k9 (marksPart 1 Z.length) 1 W (Kd.C_below e3 hW) (by rw [marksPart_length]) (by omega) (by rw [marksPart_length]; omega)
    rw [marksPart_length] at this
    exact this
  have HH := Aside0.mk hheld
  clear hheld
  go_wp2_with fail
  (with_reducible refine Calls.mono (HH.out _ (Below.refl _ _)) ?_)
  rintro e w19 ⟨rfl, b19⟩
  have D19 := Aside0.mk (below_more D18.out b19)
  have E19 := Aside0.mk b19
  have hneg : ¬ (1 + 3 * (Z.length : Int) < 0) := by omega
  clear b19
  go_wp2_with fail
  have HSh : Aside0 (∀ W, Below w19.heap.size w19 W → (Below w19.heap.size w19 W ∧ W.cell? ⟨w.heap.size, 0, none⟩ = some (.slice A0 n.pieces.length c0) ∧ W.cell? ⟨w.heap.size, 1, none⟩ = some (.slice A1 n.joints.length c1) ∧ W.cell? ⟨w.heap.size + 1, 0, none⟩ = some (.bool ok) ∧ W.cell? ⟨w.heap.size + 1, 1, none⟩ = some (.int .i64 far) ∧ W.cell? ⟨w.heap.size + 1, 2, none⟩ = some (.slice P0 l.length p0) ∧ W.cell? ⟨w.heap.size + 1, 3, none⟩ = some (.slice P1 m.length p1) ∧ W.cell? ⟨w.heap.size + 2, 0, none⟩ = some (.int .i64 x2.piece) ∧ W.cell? ⟨w.heap.size + 2, 1, none⟩ = some (.int .i64 x2.at_) ∧ W.cell? ⟨w.heap.size + 2, 2, none⟩ = some (.int .i64 x2.way))) :=
    ⟨fun W hb => ⟨hb, ((N5.out.below D19.out).below hb).c 0 _ rfl, ((N5.out.below D19.out).below hb).c 1 _ rfl, ((P5.out.below D19.out).below hb).c 0 _ rfl, ((P5.out.below D19.out).below hb).c 1 _ rfl, ((P5.out.below D19.out).below hb).c 2 _ rfl, ((P5.out.below D19.out).below hb).c 3 _ rfl, ((S5.out.below D19.out).below hb).c 0 _ rfl, ((S5.out.below D19.out).below hb).c 1 _ rfl, ((S5.out.below D19.out).below hb).c 2 _ rfl⟩⟩
  go_region_held3 (fun W => Below w19.heap.size w19 W ∧ W.cell? ⟨w.heap.size, 0, none⟩ = some (.slice A0 n.pieces.length c0) ∧ W.cell? ⟨w.heap.size, 1, none⟩ = some (.slice A1 n.joints.length c1) ∧ W.cell? ⟨w.heap.size + 1, 0, none⟩ = some (.bool ok) ∧ W.cell? ⟨w.heap.size + 1, 1, none⟩ = some (.int .i64 far) ∧ W.cell? ⟨w.heap.size + 1, 2, none⟩ = some (.slice P0 l.length p0) ∧ W.cell? ⟨w.heap.size + 1, 3, none⟩ = some (.slice P1 m.length p1) ∧ W.cell? ⟨w.heap.size + 2, 0, none⟩ = some (.int .i64 x2.piece) ∧ W.cell? ⟨w.heap.size + 2, 1, none⟩ = some (.int .i64 x2.at_) ∧ W.cell? ⟨w.heap.size + 2, 2, none⟩ = some (.int .i64 x2.way))
    (first | assumption | (with_reducible exact HSh.out _ (by assumption)) | (with_reducible exact HSh.out _ (Below.drew (Below.refl _ _))))
    (first
      | (go_at_call 43; go_split_ands; (with_reducible refine Calls.mono (toNet_of n ((A0, c0), (A1, c1)) _ ((HR.out.below (below_more B5.out D19.out)).below (by assumption)) HF.out.p HF.out.j HF.out.e) ?_); rintro e whn ⟨uh, rfl, r3, b3⟩; have Rhn := Aside0.mk r3; have qhn : Below w19.heap.size w19 whn := below_more (by assumption) b3; clear r3 b3)
      | (go_at_call 95; go_split_ands; (with_reducible refine Calls.mono (toPath_any ok far l m P0 p0 P1 p1 _ (Kd.C_below HX.out (below_more (below_more B5.out D19.out) (by assumption))) (Kd.C_below HY.out (below_more (below_more B5.out D19.out) (by assumption))) hll hlm) ?_); rintro e whp ⟨vsh, vlh, rfl, r3, r4, b3⟩; obtain ⟨Ash, csh, rfl, _, rc3⟩ := Kd.R_reads r3; obtain ⟨Alh, clh, rfl, _, rc4⟩ := Kd.R_reads r4; have YSh := Aside0.mk rc3; have YLh := Aside0.mk rc4; have Rhn2 := Aside0.mk (Rhn.out.below b3); have qhp : Below w19.heap.size w19 whp := below_more (by assumption) b3; clear r3 r4 b3 rc3 rc4)
      | (go_at_call 48; go_split_ands; (with_reducible refine Calls.mono (toSpot_any x2 _) ?_); rintro e whs ⟨rfl, b3⟩; have Rhn3 := Aside0.mk (Rhn2.out.below b3); have YSh2 := Aside0.mk (Kd.C_below YSh.out b3); have qhs : Below w19.heap.size w19 whs := below_more (by assumption) b3; clear b3)
      | (go_at_call 92; go_split_ands; (with_reducible refine Calls.mono (implStretch_x n uh ok far l m Ash csh Alh clh x2 _ Rhn3.out YSh2.out HF.out) ?_); rintro e w20 ⟨v20, rfl, r20, b3⟩; rw [HZr.out] at r20; obtain ⟨A20, k20, rfl, _, rc20⟩ := Kd.R_reads r20; have V20 := Aside0.mk rc20; have q20 : Below w19.heap.size w19 w20 := below_more (by assumption) b3; have D20 := Aside0.mk (below_more D19.out q20); have E20 := Aside0.mk (below_more E19.out q20); clear b3 r20 rc20))
  go_wp2_with fail
  (with_reducible refine Calls.mono (eqPartS_any A20 k20 Z A5 k5 Z _ V20.out (Kd.C_below V5.out D20.out)) ?_)
  rintro e w21 ⟨rfl, b21⟩
  rw [show decide (Z = Z) = true by simp]
  have D21 := Aside0.mk (below_more D20.out b21)
  have E21 := Aside0.mk (below_more E20.out b21)
  clear b21
  go_wp2_with fail
  (with_reducible refine Calls.mono (HH.out _ E21.out) ?_)
  rintro e w22 ⟨rfl, b22⟩
  have D22 := Aside0.mk (below_more D21.out b22)
  clear b22
  go_wp2_with fail
  go_ret
  exact ⟨rfl, below_more B5.out D22.out⟩
end Go.Proofs.Ytckcffjnffcjcaa
