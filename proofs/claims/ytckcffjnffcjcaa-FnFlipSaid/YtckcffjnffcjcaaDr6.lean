/- Contracts of the reference's Drive, Ahead, Behind. Conditions: the net fits. -/
import Derived.Test.YtckcffjnffcjcaaDr5
set_option linter.unusedVariables false
set_option linter.unusedSimpArgs false
namespace Go.Proofs.Ytckcffjnffcjcaa
open Go.RowKit Go.Proofs.YtckcffjnffcjcaaW.PrintWords
def driveR (n : NetT) (lies : List Int) (s : SpotT) (left : Int) : DrvT := if goB n lies s left = true then drv n lies 1000 s left else ⟨4, 0, 0, ⟨0, 0, 0⟩, []⟩
def flipW (s : SpotT) : SpotT := ⟨s.piece, s.at_, -s.way⟩
def aheadR (n : NetT) (lies : List Int) (s : SpotT) (left : Int) : List PartT := (driveR n lies s left).parts
def behindR (n : NetT) (lies : List Int) (s : SpotT) (left : Int) : List PartT := aheadR n lies (flipW s) left
theorem driveR_bad {n : NetT} {lies : List Int} {s : SpotT} {left : Int} (h : goB n lies s left = false) : driveR n lies s left = ⟨4, 0, 0, ⟨0, 0, 0⟩, []⟩ := by unfold driveR; rw [h]; rfl
theorem driveR_good {n : NetT} {lies : List Int} {s : SpotT} {left : Int} (h : goB n lies s left = true) : driveR n lies s left = drv n lies 1000 s left := by unfold driveR; rw [h]; rfl
theorem goB_is {n : NetT} {lies : List Int} {s : SpotT} {left : Int} (h : goB n lies s left = true) : Good n ∧ liesB n lies = true ∧ spotB n s = true ∧ 0 ≤ left ∧ left ≤ 1000000 := by
  unfold goB at h
  simp only [Bool.and_eq_true, inB_true] at h
  obtain ⟨⟨⟨h1, h2⟩, h3⟩, h4, h5⟩ := h
  exact ⟨Good.of h1, h2, h3, h4, h5⟩
theorem spotB_flip (n : NetT) (s : SpotT) : spotB n (flipW s) = spotB n s := by
  rw [Bool.eq_iff_iff, spotB_iff, spotB_iff]
  unfold flipW
  simp only
  omega
theorem goB_flip (n : NetT) (lies : List Int) (s : SpotT) (left : Int) : goB n lies (flipW s) left = goB n lies s left := by unfold goB; rw [spotB_flip]
theorem aheadR_len (n : NetT) (lies : List Int) (s : SpotT) (left : Int) : (aheadR n lies s left).length ≤ 1000000000000 := by
  unfold aheadR
  cases h : goB n lies s left with
  | false => rw [driveR_bad h]; simp
  | true =>
    obtain ⟨h1, h2, h3, h4, h5⟩ := goB_is h
    rw [driveR_good h]
    have := (drv_parts h1 h2 1000 s left h3 h4).2.1
    omega
theorem behindR_len (n : NetT) (lies : List Int) (s : SpotT) (left : Int) : (behindR n lies s left).length ≤ 1000000000000 := aheadR_len ..
set_option maxRecDepth 100000 in
set_option maxHeartbeats 4000000 in
theorem specDrive_any (n : NetT) (u : (Option Addr × Nat) × (Option Addr × Nat)) (v : Option Addr × Nat) (lies : List Int) (s : SpotT) (left : Int) (w : World) (hr : RdNet 67 w u n) (hl : Kd.C (Kd.int .i64) w v.1 lies.length lies) (hf : NetFits n) :
    Calls Try.prog 38 #[.agg #[.slice u.1.1 n.pieces.length u.1.2, .slice u.2.1 n.joints.length u.2.2], .slice v.1 lies.length v.2, .agg #[.int .i64 s.piece, .int .i64 s.at_, .int .i64 s.way], .int .i64 left] w
      fun e w' => e = .returned (drvV (driveR n lies s left)) ∧ Below w.heap.size w w' := by
  have HR := Aside0.mk hr
  have HL := Aside0.mk hl
  have HF := Aside0.mk hf
  clear hr hl hf
  obtain ⟨⟨A0, c0⟩, ⟨A1, c1⟩⟩ := u
  obtain ⟨A2, c2⟩ := v
  simp only at HL ⊢
  obtain ⟨W0, hW0, hN, hS, hZ, fb0⟩ := box3 w [.slice A0 n.pieces.length c0, .slice A1 n.joints.length c1] [.int .i64 s.piece, .int .i64 s.at_, .int .i64 s.way] [.int .i64 0, .int .i64 0, .int .i64 0, .int .i64 0, .int .i64 0, .int .i64 0] 35 38 44
  have HZ := Aside0.mk hZ
  clear hZ
  have fb := Aside0.mk fb0
  have HN := Aside0.mk hN
  have HS := Aside0.mk hS
  have HW := Aside0.mk hW0
  clear hW0 fb0 hN hS
  cases hg : goB n lies s left with
  | false =>
    have HV : Aside0 (driveR n lies s left = ⟨4, 0, 0, ⟨0, 0, 0⟩, []⟩) := ⟨driveR_bad hg⟩
    have HG := Aside0.mk hg
    clear hg
    go_enter Try.func38, Try.ntmps38
    go_wp2_with (go_at_call 114; rw [← HW.out]; refine (l3good_any n ((A0, c0), (A1, c1)) (A2, c2) lies s left _ (HR.out.below fb.out) (Kd.C_below HL.out fb.out) HF.out).mono ?_; rintro e w3 ⟨rfl, hb3⟩; rw [HG.out]; have B3 := Aside0.mk (below_more fb.out hb3); have N3 := Aside0.mk (HN.out.below hb3); have S3 := Aside0.mk (HS.out.below hb3); have Z3 := Aside0.mk (HZ.out.below hb3); clear hb3; have n0 := N3.out.c 0 _ rfl; have n1 := N3.out.c 1 _ rfl; have m0 := S3.out.c 0 _ rfl; have m1 := S3.out.c 1 _ rfl; have m2 := S3.out.c 2 _ rfl; have z0 := Z3.out.c 0 _ rfl; have z1 := Z3.out.c 1 _ rfl; have z2 := Z3.out.c 2 _ rfl; have z3 := Z3.out.c 3 _ rfl; have z4 := Z3.out.c 4 _ rfl; have z5 := Z3.out.c 5 _ rfl; have zf0 := Z3.out.f 0; have zf1 := Z3.out.f 1; have zf2 := Z3.out.f 2; have zf3 := Z3.out.f 3; have zf4 := Z3.out.f 4; have zf5 := Z3.out.f 5; have zlt := Z3.out.lt)
    refine bodyPost_ret (v := .agg #[.int .i64 4, .int .i64 0, .int .i64 0, .int .i64 0, .int .i64 0, .int .i64 0]) (by simp [results, Try.results38, go_sem, z0, z1, z2, z3, z4, z5, zf0, zf1, zf2, zf3, zf4, zf5, zlt]) rfl ⟨by rw [HV.out]; rfl, ?_⟩
    repeat (first | (with_reducible exact B3.out) | (with_reducible refine below_set ?_ (show w.heap.size ≤ w.heap.size + 1 + 1 by omega)))
  | true =>
    obtain ⟨hq1, hq2, hq3, hq4, hq5⟩ := goB_is hg
    have HGD := Aside0.mk hq1
    have HLB := Aside0.mk hq2
    have HSP : Aside0 (spotB n s = true) := ⟨hq3⟩
    have HL0 := Aside0.mk hq4
    have HL1 := Aside0.mk hq5
    have HV : Aside0 (driveR n lies s left = drv n lies 1000 s left) := ⟨driveR_good hg⟩
    have HG := Aside0.mk hg
    clear hg hq1 hq2 hq3 hq4 hq5
    obtain ⟨⟨dc, df, dj, ⟨dp, da, dw⟩, dps⟩, hd⟩ : ∃ d, d = drv n lies 1000 s left := ⟨_, rfl⟩
    have HD := Aside0.mk hd
    clear hd
    go_enter Try.func38, Try.ntmps38
    go_wp2_with (first | (go_at_call 114; rw [← HW.out]; refine (l3good_any n ((A0, c0), (A1, c1)) (A2, c2) lies s left _ (HR.out.below fb.out) (Kd.C_below HL.out fb.out) HF.out).mono ?_; rintro e w3 ⟨rfl, hb3⟩; rw [HG.out]; have B3 := Aside0.mk (below_more fb.out hb3); have N3 := Aside0.mk (HN.out.below hb3); have S3 := Aside0.mk (HS.out.below hb3); have Z3 := Aside0.mk (HZ.out.below hb3); clear hb3; have n0 := N3.out.c 0 _ rfl; have n1 := N3.out.c 1 _ rfl; have m0 := S3.out.c 0 _ rfl; have m1 := S3.out.c 1 _ rfl; have m2 := S3.out.c 2 _ rfl; have z0 := Z3.out.c 0 _ rfl; have z1 := Z3.out.c 1 _ rfl; have z2 := Z3.out.c 2 _ rfl; have z3 := Z3.out.c 3 _ rfl; have z4 := Z3.out.c 4 _ rfl; have z5 := Z3.out.c 5 _ rfl; have zf0 := Z3.out.f 0; have zf1 := Z3.out.f 1; have zf2 := Z3.out.f 2; have zf3 := Z3.out.f 3; have zf4 := Z3.out.f 4; have zf5 := Z3.out.f 5; have zlt := Z3.out.lt) | (go_at_call 115; refine (l3drive_any n ((A0, c0), (A1, c1)) (A2, c2) lies s left _ (HR.out.below B3.out) (Kd.C_below HL.out B3.out) HGD.out HLB.out HSP.out HL0.out HL1.out).mono ?_; rintro e w4 ⟨v4, rfl, hp4, hb4⟩; rw [← HD.out] at hp4 ⊢; simp only [drvV]; have P4 := Aside0.mk hp4; have B4 := Aside0.mk (below_more B3.out hb4); have Z4 := Aside0.mk ((Z3.out.below hb4).alloc (.cells #[.int .i64 dc, .int .i64 df, .int .i64 dj, .int .i64 dp, .int .i64 da, .int .i64 dw] 44)); clear z0 z1 z2 z3 z4 z5 zf0 zf1 zf2 zf3 zf4 zf5 zlt; have z0 := Z4.out.c 0 _ rfl; have z1 := Z4.out.c 1 _ rfl; have z2 := Z4.out.c 2 _ rfl; have z3 := Z4.out.c 3 _ rfl; have z4 := Z4.out.c 4 _ rfl; have z5 := Z4.out.c 5 _ rfl; have zf0 := Z4.out.f 0; have zf1 := Z4.out.f 1; have zf2 := Z4.out.f 2; have zf3 := Z4.out.f 3; have zf4 := Z4.out.f 4; have zf5 := Z4.out.f 5; have zlt := Z4.out.lt; clear hb4 hp4))
    refine bodyPost_ret (v := .agg #[.int .i64 dc, .int .i64 df, .int .i64 dj, .int .i64 dp, .int .i64 da, .int .i64 dw]) (by simp [results, Try.results38, go_sem, z0, z1, z2, z3, z4, z5, zf0, zf1, zf2, zf3, zf4, zf5, zlt]) rfl ⟨by rw [HV.out, ← HD.out]; rfl, ?_⟩
    repeat (first | (with_reducible exact B4.out) | (with_reducible refine below_set ?_ (show w.heap.size ≤ w.heap.size + 1 + 1 by omega)) | (with_reducible refine below_alloc ?_ _))
set_option maxRecDepth 100000 in
set_option maxHeartbeats 4000000 in
theorem specAhead_any (n : NetT) (u : (Option Addr × Nat) × (Option Addr × Nat)) (v : Option Addr × Nat) (lies : List Int) (s : SpotT) (left : Int) (w : World) (hr : RdNet 67 w u n) (hl : Kd.C (Kd.int .i64) w v.1 lies.length lies) (hf : NetFits n) :
    Calls Try.prog 70 #[.agg #[.slice u.1.1 n.pieces.length u.1.2, .slice u.2.1 n.joints.length u.2.2], .slice v.1 lies.length v.2, .agg #[.int .i64 s.piece, .int .i64 s.at_, .int .i64 s.way], .int .i64 left] w
      fun e w' => ∃ v2, e = .returned v2 ∧ Kd.R kPart 89 w' w.heap.size (fun _ => True) v2 (aheadR n lies s left) ∧ Below w.heap.size w w' := by
  have HR := Aside0.mk hr
  have HL := Aside0.mk hl
  have HF := Aside0.mk hf
  clear hr hl hf
  obtain ⟨⟨A0, c0⟩, ⟨A1, c1⟩⟩ := u
  obtain ⟨A2, c2⟩ := v
  simp only at HL ⊢
  obtain ⟨W0, hW0, hN, hS, fb0, hsz⟩ := box2 w [.slice A0 n.pieces.length c0, .slice A1 n.joints.length c1] [.int .i64 s.piece, .int .i64 s.at_, .int .i64 s.way] 35 38
  clear hsz
  have fb := Aside0.mk fb0
  have HN := Aside0.mk hN
  have HS := Aside0.mk hS
  have HW := Aside0.mk hW0
  clear hW0 fb0 hN hS
  cases hg : goB n lies s left with
  | false =>
    have HV : Aside0 (aheadR n lies s left = []) := ⟨by unfold aheadR; rw [driveR_bad hg]⟩
    have HG := Aside0.mk hg
    clear hg
    go_enter Try.func70, Try.ntmps70
    go_wp2_with (go_at_call 114; rw [← HW.out]; refine (l3good_any n ((A0, c0), (A1, c1)) (A2, c2) lies s left _ (HR.out.below fb.out) (Kd.C_below HL.out fb.out) HF.out).mono ?_; rintro e w3 ⟨rfl, hb3⟩; rw [HG.out]; have B3 := Aside0.mk (below_more fb.out hb3); have N3 := Aside0.mk (HN.out.below hb3); have S3 := Aside0.mk (HS.out.below hb3); clear hb3; have n0 := N3.out.c 0 _ rfl; have n1 := N3.out.c 1 _ rfl; have m0 := S3.out.c 0 _ rfl; have m1 := S3.out.c 1 _ rfl; have m2 := S3.out.c 2 _ rfl)
    go_ret
    exact ⟨_, rfl, by rw [HV.out]; exact Kd.R_nil .., B3.out⟩
  | true =>
    obtain ⟨hq1, hq2, hq3, hq4, hq5⟩ := goB_is hg
    have HGD := Aside0.mk hq1
    have HLB := Aside0.mk hq2
    have HSP : Aside0 (spotB n s = true) := ⟨hq3⟩
    have HL0 := Aside0.mk hq4
    have HL1 := Aside0.mk hq5
    have HV : Aside0 (aheadR n lies s left = (drv n lies 1000 s left).parts) := ⟨by unfold aheadR; rw [driveR_good hg]⟩
    have HG := Aside0.mk hg
    clear hg hq1 hq2 hq3 hq4 hq5
    obtain ⟨⟨dc, df, dj, ⟨dp, da, dw⟩, dps⟩, hd⟩ : ∃ d, d = drv n lies 1000 s left := ⟨_, rfl⟩
    have HD := Aside0.mk hd
    clear hd
    go_enter Try.func70, Try.ntmps70
    go_wp2_with (first | (go_at_call 114; rw [← HW.out]; refine (l3good_any n ((A0, c0), (A1, c1)) (A2, c2) lies s left _ (HR.out.below fb.out) (Kd.C_below HL.out fb.out) HF.out).mono ?_; rintro e w3 ⟨rfl, hb3⟩; rw [HG.out]; have B3 := Aside0.mk (below_more fb.out hb3); have N3 := Aside0.mk (HN.out.below hb3); have S3 := Aside0.mk (HS.out.below hb3); clear hb3; have n0 := N3.out.c 0 _ rfl; have n1 := N3.out.c 1 _ rfl; have m0 := S3.out.c 0 _ rfl; have m1 := S3.out.c 1 _ rfl; have m2 := S3.out.c 2 _ rfl) | (go_at_call 115; refine (l3drive_any n ((A0, c0), (A1, c1)) (A2, c2) lies s left _ (HR.out.below B3.out) (Kd.C_below HL.out B3.out) HGD.out HLB.out HSP.out HL0.out HL1.out).mono ?_; rintro e w4 ⟨v4, rfl, hp4, hb4⟩; rw [← HD.out] at hp4 ⊢; simp only [drvV]; have P4 := Aside0.mk hp4; have B4 := Aside0.mk (below_more B3.out hb4); clear hb4 hp4))
    go_ret
    refine ⟨_, rfl, ?_, below_alloc B4.out _⟩
    rw [HV.out, ← HD.out]
    exact Kd.R_alloc (Kd.R_lower P4.out (by have := B3.out.size; first | exact this | (simp; omega))) _
set_option maxRecDepth 100000 in
set_option maxHeartbeats 4000000 in
theorem specBehind_any (n : NetT) (u : (Option Addr × Nat) × (Option Addr × Nat)) (v : Option Addr × Nat) (lies : List Int) (s : SpotT) (left : Int) (w : World) (hr : RdNet 67 w u n) (hl : Kd.C (Kd.int .i64) w v.1 lies.length lies) (hf : NetFits n) :
    Calls Try.prog 86 #[.agg #[.slice u.1.1 n.pieces.length u.1.2, .slice u.2.1 n.joints.length u.2.2], .slice v.1 lies.length v.2, .agg #[.int .i64 s.piece, .int .i64 s.at_, .int .i64 s.way], .int .i64 left] w
      fun e w' => ∃ v2, e = .returned v2 ∧ Kd.R kPart 89 w' w.heap.size (fun _ => True) v2 (behindR n lies s left) ∧ Below w.heap.size w w' := by
  have HR := Aside0.mk hr
  have HL := Aside0.mk hl
  have HF := Aside0.mk hf
  clear hr hl hf
  obtain ⟨⟨A0, c0⟩, ⟨A1, c1⟩⟩ := u
  obtain ⟨A2, c2⟩ := v
  simp only at HL ⊢
  obtain ⟨W0, hW0, hN, hS, fb0, hsz⟩ := box2 w [.slice A0 n.pieces.length c0, .slice A1 n.joints.length c1] [.int .i64 s.piece, .int .i64 s.at_, .int .i64 s.way] 35 38
  clear hsz
  have fb := Aside0.mk fb0
  have HN := Aside0.mk hN
  have HS := Aside0.mk hS
  have HW := Aside0.mk hW0
  clear hW0 fb0 hN hS
  cases hg : goB n lies s left with
  | false =>
    have HV : Aside0 (behindR n lies s left = []) := ⟨by unfold behindR aheadR; rw [driveR_bad (by rw [goB_flip]; exact hg)]⟩
    have HG := Aside0.mk hg
    clear hg
    go_enter Try.func86, Try.ntmps86
    go_wp2_with (go_at_call 114; rw [← HW.out]; refine (l3good_any n ((A0, c0), (A1, c1)) (A2, c2) lies s left _ (HR.out.below fb.out) (Kd.C_below HL.out fb.out) HF.out).mono ?_; rintro e w3 ⟨rfl, hb3⟩; rw [HG.out]; have B3 := Aside0.mk (below_more fb.out hb3); have N3 := Aside0.mk (HN.out.below hb3); have S3 := Aside0.mk (HS.out.below hb3); clear hb3; have n0 := N3.out.c 0 _ rfl; have n1 := N3.out.c 1 _ rfl; have m0 := S3.out.c 0 _ rfl; have m1 := S3.out.c 1 _ rfl; have m2 := S3.out.c 2 _ rfl)
    go_ret
    exact ⟨_, rfl, by rw [HV.out]; exact Kd.R_nil .., B3.out⟩
  | true =>
    obtain ⟨hq1, hq2, hq3, hq4, hq5⟩ := goB_is hg
    have HGD := Aside0.mk hq1
    have HLB := Aside0.mk hq2
    have HSP : Aside0 (spotB n ⟨s.piece, s.at_, -s.way⟩ = true) := ⟨by rw [show (⟨s.piece, s.at_, -s.way⟩ : SpotT) = flipW s from rfl, spotB_flip]; exact hq3⟩
    have HL0 := Aside0.mk hq4
    have HL1 := Aside0.mk hq5
    have HV : Aside0 (behindR n lies s left = (drv n lies 1000 ⟨s.piece, s.at_, -s.way⟩ left).parts) := ⟨by unfold behindR aheadR; rw [driveR_good (by rw [goB_flip]; exact hg)]; rfl⟩
    have HG := Aside0.mk hg
    have hwy : IntKind.i64.wrap (-s.way) = -s.way := by have := (spotB_iff.1 hq3).2.2.1; exact wrap64 (by omega) (by omega)
    clear hg hq1 hq2 hq3 hq4 hq5
    obtain ⟨⟨dc, df, dj, ⟨dp, da, dw⟩, dps⟩, hd⟩ : ∃ d, d = drv n lies 1000 ⟨s.piece, s.at_, -s.way⟩ left := ⟨_, rfl⟩
    have HD := Aside0.mk hd
    clear hd
    go_enter Try.func86, Try.ntmps86
    go_wp2_with (first | (go_at_call 114; rw [← HW.out]; refine (l3good_any n ((A0, c0), (A1, c1)) (A2, c2) lies s left _ (HR.out.below fb.out) (Kd.C_below HL.out fb.out) HF.out).mono ?_; rintro e w3 ⟨rfl, hb3⟩; rw [HG.out]; have B3 := Aside0.mk (below_more fb.out hb3); have N3 := Aside0.mk (HN.out.below hb3); have S3 := Aside0.mk (HS.out.below hb3); have B3t := Aside0.mk (below_set B3.out (g := w.heap.size + 1) (j := 2) (v := .int .i64 (-s.way)) (show w.heap.size ≤ w.heap.size + 1 by omega)); have mf2 := S3.out.f 2; clear hb3; have n0 := N3.out.c 0 _ rfl; have n1 := N3.out.c 1 _ rfl; have m0 := S3.out.c 0 _ rfl; have m1 := S3.out.c 1 _ rfl; have m2 := S3.out.c 2 _ rfl) | (go_at_call 115; refine (l3drive_any n ((A0, c0), (A1, c1)) (A2, c2) lies ⟨s.piece, s.at_, -s.way⟩ left _ (HR.out.below B3t.out) (Kd.C_below HL.out B3t.out) HGD.out HLB.out HSP.out HL0.out HL1.out).mono ?_; rintro e w4 ⟨v4, rfl, hp4, hb4⟩; rw [← HD.out] at hp4 ⊢; simp only [drvV]; have P4 := Aside0.mk hp4; have B4 := Aside0.mk (below_more B3t.out hb4); clear hb4 hp4))
    go_ret
    refine ⟨_, rfl, ?_, below_alloc B4.out _⟩
    rw [HV.out, ← HD.out]
    exact Kd.R_alloc (Kd.R_lower P4.out (by have := B3.out.size; first | exact this | (simp; omega))) _
end Go.Proofs.Ytckcffjnffcjcaa
