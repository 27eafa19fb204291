/- Contracts of the program's Drive, Ahead, Behind. Conditions: the net fits; of Behind: the way is a Go int. -/
import Derived.Test.YtckcffjnffcjcaaDr7
import Derived.Test.YtckcffjnffcjcaaDr8
set_option linter.unusedVariables false
set_option linter.unusedSimpArgs false
namespace Go.Proofs.Ytckcffjnffcjcaa
open Go.RowKit Go.Proofs.YtckcffjnffcjcaaW.PrintWords
set_option maxRecDepth 100000 in
set_option maxHeartbeats 4000000 in
theorem implDrive_any (n : NetT) (u : (Option Addr × Nat) × (Option Addr × Nat)) (v : Option Addr × Nat) (lies : List Int) (s : SpotT) (left : Int) (w : World) (hr : RdNet 67 w u n) (hl : Kd.C (Kd.int .i64) w v.1 lies.length lies) (hf : NetFits n) :
    Calls Try.prog 37 #[.agg #[.slice u.1.1 n.pieces.length u.1.2, .slice u.2.1 n.joints.length u.2.2], .slice v.1 lies.length v.2, .agg #[.int .i64 s.piece, .int .i64 s.at_, .int .i64 s.way], .int .i64 left] w
      fun e w' => e = .returned (drvV (driveR n lies s left)) ∧ Below w.heap.size w w' := by
  have HR := Aside0.mk hr
  have HL := Aside0.mk hl
  have HF := Aside0.mk hf
  clear hr hl hf
  obtain ⟨⟨A0, c0⟩, ⟨A1, c1⟩⟩ := u
  obtain ⟨A2, c2⟩ := v
  simp only at HL ⊢
  obtain ⟨W0, hW0, hN, hS, hZ, fb0⟩ := box3 w [.slice A0 n.pieces.length c0, .slice A1 n.joints.length c1] [.int .i64 s.piece, .int .i64 s.at_, .int .i64 s.way] [.int .i64 0, .int .i64 0, .int .i64 0, .int .i64 0, .int .i64 0, .int .i64 0] 35 38 44
  have HZ := Aside0.mk hZ
  clear hZ
  have fb := Aside0.mk fb0
  have HN := Aside0.mk hN
  have HS := Aside0.mk hS
  have HW := Aside0.mk hW0
  have hmf : ∀ (fn : Fn) (first cap : Array Value) (w : World), (Instr.makeFunc fn first cap).run Try.prog w = .ok (.func fn first cap) w := fun _ _ _ _ => rfl
  clear hW0 fb0 hN hS
  cases hg : goB n lies s left with
  | false =>
    have HV : Aside0 (driveR n lies s left = ⟨4, 0, 0, ⟨0, 0, 0⟩, []⟩) := ⟨driveR_bad hg⟩
    have HG := Aside0.mk hg
    clear hg
    go_enter Try.func37, Try.ntmps37
    go_wp2_with (go_at_call 111; rw [← HW.out]; refine (driveOk_any n ((A0, c0), (A1, c1)) (A2, c2) lies s left _ (HR.out.below fb.out) (Kd.C_below HL.out fb.out) HF.out).mono ?_; rintro e w3 ⟨rfl, hb3⟩; rw [HG.out]; have B3 := Aside0.mk (below_more fb.out hb3); have Z3 := Aside0.mk (HZ.out.below hb3); have N3 := Aside0.mk (HN.out.below hb3); have S3 := Aside0.mk (HS.out.below hb3); clear hb3; have n0 := N3.out.c 0 _ rfl; have n1 := N3.out.c 1 _ rfl; have m0 := S3.out.c 0 _ rfl; have m1 := S3.out.c 1 _ rfl; have m2 := S3.out.c 2 _ rfl; have z0 := Z3.out.c 0 _ rfl; have z1 := Z3.out.c 1 _ rfl; have z2 := Z3.out.c 2 _ rfl; have z3 := Z3.out.c 3 _ rfl; have z4 := Z3.out.c 4 _ rfl; have z5 := Z3.out.c 5 _ rfl; have zf0 := Z3.out.f 0; have zf1 := Z3.out.f 1; have zf2 := Z3.out.f 2; have zf3 := Z3.out.f 3; have zf4 := Z3.out.f 4; have zf5 := Z3.out.f 5; have zlt := Z3.out.lt)
    refine bodyPost_ret (v := .agg #[.int .i64 4, .int .i64 0, .int .i64 0, .int .i64 0, .int .i64 0, .int .i64 0]) (by simp [results, Try.results37, go_sem, z0, z1, z2, z3, z4, z5, zf0, zf1, zf2, zf3, zf4, zf5, zlt]) rfl ⟨by rw [HV.out]; rfl, ?_⟩
    repeat (first | (with_reducible exact B3.out) | (with_reducible refine below_set ?_ (show w.heap.size ≤ w.heap.size + 1 + 1 by omega)))
  | true =>
    obtain ⟨hq1, hq2, hq3, hq4, hq5⟩ := goB_is hg
    have HGD := Aside0.mk hq1
    have HLB := Aside0.mk hq2
    have HSP := Aside0.mk hq3
    have HL0 := Aside0.mk hq4
    have HL1 := Aside0.mk hq5
    have HV : Aside0 (driveR n lies s left = drv n lies 1000 s left) := ⟨driveR_good hg⟩
    have HG := Aside0.mk hg
    clear hg hq1 hq2 hq3 hq4 hq5
    obtain ⟨⟨dc, df, dj, ⟨dp, da, dw⟩, dps⟩, hd⟩ : ∃ d, d = drv n lies 1000 s left := ⟨_, rfl⟩
    have HD := Aside0.mk hd
    clear hd
    go_enter Try.func37, Try.ntmps37
    go_wp2_with (first | (go_at_call 111; rw [← HW.out]; refine (driveOk_any n ((A0, c0), (A1, c1)) (A2, c2) lies s left _ (HR.out.below fb.out) (Kd.C_below HL.out fb.out) HF.out).mono ?_; rintro e w3 ⟨rfl, hb3⟩; rw [HG.out]; have B3 := Aside0.mk (below_more fb.out hb3); have Z3 := Aside0.mk (HZ.out.below hb3); have N3 := Aside0.mk (HN.out.below hb3); have S3 := Aside0.mk (HS.out.below hb3); clear hb3; have n0 := N3.out.c 0 _ rfl; have n1 := N3.out.c 1 _ rfl; have m0 := S3.out.c 0 _ rfl; have m1 := S3.out.c 1 _ rfl; have m2 := S3.out.c 2 _ rfl) | (go_at_call 112; refine (driveNone_any n ((A0, c0), (A1, c1)) (A2, c2) lies s left w3 _ (HR.out.below B3.out) (Kd.C_below HL.out B3.out) (Below.refl _ _) HGD.out HLB.out HSP.out HL0.out HL1.out).mono ?_; rintro e w4 ⟨rfl, hb4⟩; rw [← HD.out]; simp only [drvV]; have B4 := Aside0.mk (below_more B3.out hb4); have Z4 := Aside0.mk (Z3.out.below hb4); clear hb4; have z0 := Z4.out.c 0 _ rfl; have z1 := Z4.out.c 1 _ rfl; have z2 := Z4.out.c 2 _ rfl; have z3 := Z4.out.c 3 _ rfl; have z4 := Z4.out.c 4 _ rfl; have z5 := Z4.out.c 5 _ rfl; have zf0 := Z4.out.f 0; have zf1 := Z4.out.f 1; have zf2 := Z4.out.f 2; have zf3 := Z4.out.f 3; have zf4 := Z4.out.f 4; have zf5 := Z4.out.f 5; have zlt := Z4.out.lt))
    refine bodyPost_ret (v := .agg #[.int .i64 dc, .int .i64 df, .int .i64 dj, .int .i64 dp, .int .i64 da, .int .i64 dw]) (by simp [results, Try.results37, go_sem, z0, z1, z2, z3, z4, z5, zf0, zf1, zf2, zf3, zf4, zf5, zlt]) rfl ⟨by rw [HV.out, ← HD.out]; rfl, ?_⟩
    repeat (first | (with_reducible exact B4.out) | (with_reducible refine below_set ?_ (show w.heap.size ≤ w.heap.size + 1 + 1 by omega)) | (with_reducible refine below_alloc ?_ _))
set_option maxRecDepth 100000 in
set_option maxHeartbeats 4000000 in
theorem implAhead_any (n : NetT) (u : (Option Addr × Nat) × (Option Addr × Nat)) (v : Option Addr × Nat) (lies : List Int) (s : SpotT) (left : Int) (w : World) (hr : RdNet 67 w u n) (hl : Kd.C (Kd.int .i64) w v.1 lies.length lies) (hf : NetFits n) :
    Calls Try.prog 67 #[.agg #[.slice u.1.1 n.pieces.length u.1.2, .slice u.2.1 n.joints.length u.2.2], .slice v.1 lies.length v.2, .agg #[.int .i64 s.piece, .int .i64 s.at_, .int .i64 s.way], .int .i64 left] w
      fun e w' => ∃ v2, e = .returned v2 ∧ Kd.R kPart 89 w' w.heap.size (fun _ => True) v2 (aheadR n lies s left) ∧ Below w.heap.size w w' := by
  have HR := Aside0.mk hr
  have HL := Aside0.mk hl
  have HF := Aside0.mk hf
  clear hr hl hf
  obtain ⟨⟨A0, c0⟩, ⟨A1, c1⟩⟩ := u
  obtain ⟨A2, c2⟩ := v
  simp only at HL ⊢
  obtain ⟨W0, hW0, hN, hS, fb0, hsz⟩ := box2 w [.slice A0 n.pieces.length c0, .slice A1 n.joints.length c1] [.int .i64 s.piece, .int .i64 s.at_, .int .i64 s.way] 35 38
  clear hsz
  have fb := Aside0.mk fb0
  have HN := Aside0.mk hN
  have HS := Aside0.mk hS
  have HW := Aside0.mk hW0
  have hmf : ∀ (fn : Fn) (first cap : Array Value) (w : World), (Instr.makeFunc fn first cap).run Try.prog w = .ok (.func fn first cap) w := fun _ _ _ _ => rfl
  clear hW0 fb0 hN hS
  cases hg : goB n lies s left with
  | false =>
    have HV : Aside0 (aheadR n lies s left = []) := ⟨by unfold aheadR; rw [driveR_bad hg]⟩
    have HG := Aside0.mk hg
    clear hg
    go_enter Try.func67, Try.ntmps67
    go_wp2_with (go_at_call 111; rw [← HW.out]; refine (driveOk_any n ((A0, c0), (A1, c1)) (A2, c2) lies s left _ (HR.out.below fb.out) (Kd.C_below HL.out fb.out) HF.out).mono ?_; rintro e w3 ⟨rfl, hb3⟩; rw [HG.out]; have B3 := Aside0.mk (below_more fb.out hb3); clear hb3)
    go_ret
    exact ⟨_, rfl, by rw [HV.out]; exact Kd.R_nil .., B3.out⟩
  | true =>
    obtain ⟨hq1, hq2, hq3, hq4, hq5⟩ := goB_is hg
    have HGD := Aside0.mk hq1
    have HLB := Aside0.mk hq2
    have HSP := Aside0.mk hq3
    have HL0 := Aside0.mk hq4
    have HL1 := Aside0.mk hq5
    have HV : Aside0 (aheadR n lies s left = (drv n lies 1000 s left).parts) := ⟨by unfold aheadR; rw [driveR_good hg]⟩
    have HG := Aside0.mk hg
    clear hg hq1 hq2 hq3 hq4 hq5
    obtain ⟨⟨dc, df, dj, ⟨dp, da, dw⟩, dps⟩, hd⟩ : ∃ d, d = drv n lies 1000 s left := ⟨_, rfl⟩
    have HD := Aside0.mk hd
    clear hd
    go_enter Try.func67, Try.ntmps67
    go_wp2_with (first | (go_at_call 111; rw [← HW.out]; refine (driveOk_any n ((A0, c0), (A1, c1)) (A2, c2) lies s left _ (HR.out.below fb.out) (Kd.C_below HL.out fb.out) HF.out).mono ?_; rintro e w3 ⟨rfl, hb3⟩; rw [HG.out]; have B3 := Aside0.mk (below_more fb.out hb3); have N3 := Aside0.mk ((HN.out.below hb3).alloc (.cells #[.slice none 0 0] 26)); have S3 := Aside0.mk ((HS.out.below hb3).alloc (.cells #[.slice none 0 0] 26)); have Y3 := Aside0.mk (Bx.new w3 [.slice none 0 0] 26); clear hb3; have n0 := N3.out.c 0 _ rfl; have n1 := N3.out.c 1 _ rfl; have m0 := S3.out.c 0 _ rfl; have m1 := S3.out.c 1 _ rfl; have m2 := S3.out.c 2 _ rfl) | (go_at_call 112; refine (driveRow_any n ((A0, c0), (A1, c1)) (A2, c2) lies s left w3.heap.size w _ HR.out HL.out (below_alloc B3.out _) B3.out.size (by simp) Y3.out HGD.out HLB.out HSP.out HL0.out HL1.out).mono ?_; rintro e w4 ⟨rfl, ⟨PA, pc, hy4, hp4⟩, hb4⟩; have P4 := Aside0.mk hp4; have B4 := Aside0.mk hb4; rw [← HD.out]; simp only [drvV]; have y4 := hy4.c 0 _ rfl; clear hp4 hb4 hy4))
    go_ret
    refine ⟨_, rfl, ?_, B4.out⟩
    rw [HV.out]
    exact Kd.R_lower P4.out (by have := B3.out.size; first | (simp; done) | (simp; omega))
theorem ahead_turned (n : NetT) (lies : List Int) (s : SpotT) (left : Int) (h : I64 s.way) : aheadR n lies ⟨s.piece, s.at_, IntKind.i64.wrap (-s.way)⟩ left = behindR n lies s left := by
  by_cases hx : s.way = -9223372036854775808
  · have e : IntKind.i64.wrap (-s.way) = s.way := by rw [hx]; kernel_rfl
    have hb : ∀ t : SpotT, t.way ≠ 1 → t.way ≠ -1 → aheadR n lies t left = [] := by
      intro t h1 h2
      have hs : goB n lies t left = false := by
        rw [Bool.eq_false_iff]
        intro hg
        have := (spotB_iff.1 (goB_is hg).2.2.1).2.2.1
        omega
      unfold aheadR
      rw [driveR_bad hs]
    rw [e]
    unfold behindR flipW
    rw [hb _ (by show s.way ≠ 1; omega) (by show s.way ≠ -1; omega), hb _ (by show -s.way ≠ 1; omega) (by show -s.way ≠ -1; omega)]
  · rw [wrap64 (by have := h.1; have := h.2; omega) (by have := h.1; have := h.2; omega)]
    rfl
set_option maxRecDepth 100000 in
set_option maxHeartbeats 4000000 in
theorem implBehind_any (n : NetT) (u : (Option Addr × Nat) × (Option Addr × Nat)) (v : Option Addr × Nat) (lies : List Int) (s : SpotT) (left : Int) (w : World) (hr : RdNet 67 w u n) (hl : Kd.C (Kd.int .i64) w v.1 lies.length lies) (hf : NetFits n) (hway : I64 s.way) :
    Calls Try.prog 68 #[.agg #[.slice u.1.1 n.pieces.length u.1.2, .slice u.2.1 n.joints.length u.2.2], .slice v.1 lies.length v.2, .agg #[.int .i64 s.piece, .int .i64 s.at_, .int .i64 s.way], .int .i64 left] w
      fun e w' => ∃ v2, e = .returned v2 ∧ Kd.R kPart 89 w' w.heap.size (fun _ => True) v2 (behindR n lies s left) ∧ Below w.heap.size w w' := by
  have HR := Aside0.mk hr
  have HL := Aside0.mk hl
  have HF := Aside0.mk hf
  have HT := Aside0.mk (ahead_turned n lies s left hway)
  clear hr hl hf hway
  obtain ⟨⟨A0, c0⟩, ⟨A1, c1⟩⟩ := u
  obtain ⟨A2, c2⟩ := v
  simp only at HL ⊢
  obtain ⟨y, hy⟩ : ∃ y, y = IntKind.i64.wrap (-s.way) := ⟨_, rfl⟩
  have HY := Aside0.mk hy
  have hwy : IntKind.i64.wrap (-s.way) = y := hy.symm
  clear hy
  have B3 : Aside0 (Below w.heap.size w (((w.alloc (.cells #[.slice A0 n.pieces.length c0, .slice A1 n.joints.length c1] 35)).alloc (.cells #[.int .i64 s.piece, .int .i64 s.at_, .int .i64 s.way] 38)))) := ⟨below_two _ _ _⟩
  go_enter Try.func68, Try.ntmps68
  go_wp2_with (go_at_call 67; refine (implAhead_any n ((A0, c0), (A1, c1)) (A2, c2) lies ⟨s.piece, s.at_, y⟩ left _ (HR.out.below ?hb) (Kd.C_below HL.out ?hb2) HF.out).mono ?_; (case hb => repeat (first | (with_reducible exact B3.out) | (with_reducible exact below_alloc (Below.refl _ _) _) | (with_reducible refine below_set ?_ (show w.heap.size ≤ w.heap.size + 1 by omega)) | (with_reducible refine below_alloc ?_ _) | (with_reducible exact Below.refl _ _))); (case hb2 => repeat (first | (with_reducible exact B3.out) | (with_reducible exact below_alloc (Below.refl _ _) _) | (with_reducible refine below_set ?_ (show w.heap.size ≤ w.heap.size + 1 by omega)) | (with_reducible refine below_alloc ?_ _) | (with_reducible exact Below.refl _ _))); rintro e w5 ⟨v2, rfl, hv5, hb5⟩; rw [HY.out, HT.out] at hv5; have V5 := Aside0.mk hv5; have q5 := Aside0.mk hb5; clear hv5 hb5)
  go_ret
  exact ⟨_, rfl, Kd.R_lower V5.out (below_two w _ _).size, below_more (below_two w _ _) q5.out⟩
end Go.Proofs.Ytckcffjnffcjcaa
