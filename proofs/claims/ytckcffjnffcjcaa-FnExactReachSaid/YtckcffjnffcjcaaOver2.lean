/- Contracts of over, Across (both). Conditions: the net fits (and is right, for over). -/
import Derived.Test.YtckcffjnffcjcaaOver
set_option linter.unusedVariables false
set_option linter.unusedSimpArgs false
namespace Go.Proofs.Ytckcffjnffcjcaa
open Go.RowKit Go.Proofs.YtckcffjnffcjcaaW.PrintWords
set_option maxRecDepth 100000 in
set_option maxHeartbeats 4000000 in
theorem over_any (n : NetT) (u : (Option Addr × Nat) × (Option Addr × Nat)) (x : EndT) (w : World) (hr : RdNet 67 w u n) (hg : Good n) :
    Calls Try.prog 136 #[.agg #[.slice u.1.1 n.pieces.length u.1.2, .slice u.2.1 n.joints.length u.2.2], .agg #[.int .i64 x.piece, .int .i64 x.side]] w
      fun e w' => ∃ v1 v2, e = .returned (.tuple #[v1, v2]) ∧ Kd.R kEnd 67 w' w.heap.size (fun _ => True) v1 (acrossG n x) ∧ Kd.R (Kd.int .i64) 3 w' w.heap.size (fun _ => True) v2 (howG n x) ∧ Below w.heap.size w w' := by
  have HR := Aside0.mk hr
  have hjm := hr.2.1.2.1
  have HJR := Aside0.mk hr.2.1
  have HGd := Aside0.mk hg
  clear hr hg
  obtain ⟨⟨A0, c0⟩, ⟨A1, c1⟩⟩ := u
  obtain ⟨W0, hW0, hN, hS, fb0, hsz⟩ := box2 w [.slice A0 n.pieces.length c0, .slice A1 n.joints.length c1] [.int .i64 x.piece, .int .i64 x.side] 35 67
  have fb := Aside0.mk fb0
  have HN := Aside0.mk hN
  have HS := Aside0.mk hS
  have HW := Aside0.mk hW0
  clear hW0 fb0 hN hS hsz
  rcases atEnd_cases n x with ⟨hat, _⟩ | ⟨i, q, hat, hi, hq, he⟩
  · have HA := Aside0.mk hat
    have HV := Aside0.mk (acrossG_none hat)
    clear hat
    go_enter Try.func136, Try.ntmps136
    go_wp2_with (go_at_call 134; rw [← HW.out]; refine (at_any n ((A0, c0), (A1, c1)) x _ (HR.out.below fb.out)).mono ?_; rintro e w3 ⟨rfl, hb3⟩; simp only [HA.out]; have B3 := Aside0.mk (below_more fb.out hb3); clear hb3)
    refine bodyPost_ret (v := .tuple #[.slice none 0 0, .slice none 0 0]) (by simp [results, Try.results136, go_sem]) rfl ⟨_, _, rfl, by rw [HV.out.1]; exact Kd.R_nil .., by rw [HV.out.2]; exact Kd.R_nil .., B3.out⟩
  · have HAI := Aside0.mk (AtIs.mk hat hi hq he)
    have HV := Aside0.mk (acrossG_at (AtIs.mk hat hi hq he))
    have hK := HGd.out.kindAt hi
    obtain ⟨hk1, hk2, hk3, _⟩ := hK
    clear hat he
    obtain ⟨ad0, A2, k0, e0, x0, x1, x2, m0, g0⟩ := at_Joint HJR.out i hi
    simp only at e0
    subst e0
    obtain ⟨j, hj⟩ : ∃ j, j = n.joints.getD i default := ⟨_, rfl⟩
    rw [← hj] at x0 x1 x2 m0 g0 hk1 hk2 hk3 hq HV
    clear hj x1 m0
    obtain ⟨jk, jn, je⟩ := j
    simp only at x0 x2 g0 hk1 hk2 hk3 hq HV
    obtain ⟨ad, rfl⟩ := C_some g0 (by omega)
    have HG := Aside0.mk g0
    have hgm := g0.2.1
    clear g0
    have iz : (0 : Int) ≤ (i : Int) := by omega
    have hij : (i : Int) < (n.joints.length : Int) := by omega
    have neg : ((i : Int) < 0) = False := by simp
    have hkc : jk = 1 ∨ jk = 2 ∨ jk = 3 ∨ jk = 4 := by omega
    rcases hkc with rfl | rfl | rfl | rfl
    · have HA2 : Aside0 (acrossG n x = [] ∧ howG n x = []) := ⟨by rw [HV.out.1, HV.out.2]; exact aJ1 rfl⟩
      clear HV
      go_enter Try.func136, Try.ntmps136
      go_wp2_with (go_at_call 134; rw [← HW.out]; refine (at_any n ((A0, c0), (some ad0, c1)) x _ (HR.out.below fb.out)).mono ?_; rintro e w3 ⟨rfl, hb3⟩; simp only [HAI.out.eq]; have B3 := Aside0.mk (below_more fb.out hb3); have b3 := B3.out; replace x0 := pw_cell_below b3 x0; replace x2 := pw_cell_below b3 x2; clear b3; have n0 := (HN.out.below hb3).c 0 _ rfl; have n1 := (HN.out.below hb3).c 1 _ rfl; clear hb3)
      refine bodyPost_ret (v := .tuple #[.slice none 0 0, .slice none 0 0]) (by simp [results, Try.results136, go_sem]) rfl ⟨_, _, rfl, by rw [HA2.out.1]; exact Kd.R_nil .., by rw [HA2.out.2]; exact Kd.R_nil .., B3.out⟩
    · have hl : je.length = 2 := by omega
      rw [hl] at HG x2 hgm
      have hqc : q = 0 ∨ q = 1 := by omega
      clear hk1 hk2 hk3 hq
      rcases hqc with rfl | rfl
      ·
        have HA := Aside0.mk (aJ2 (j := ⟨2, jn, je⟩) (q := 0) rfl)
        obtain ⟨y0, y1⟩ := end1 HG.out (ad := ad) rfl (by omega)
        obtain ⟨p, hp⟩ : ∃ p, p = je.getD 1 default := ⟨_, rfl⟩
        rw [← hp] at y0 y1
        have HA2 : Aside0 (acrossG n x = [p] ∧ howG n x = [0]) := ⟨by rw [HV.out.1, HV.out.2, HA.out.1, HA.out.2]; rw [hp]; exact ⟨rfl, rfl⟩⟩
        clear hp HA HV
        go_enter Try.func136, Try.ntmps136
        go_wp2_with (go_at_call 134; rw [← HW.out]; refine (at_any n ((A0, c0), (some ad0, c1)) x _ (HR.out.below fb.out)).mono ?_; rintro e w3 ⟨rfl, hb3⟩; simp only [HAI.out.eq]; have B3 := Aside0.mk (below_more fb.out hb3); have b3 := B3.out; replace x0 := pw_cell_below b3 x0; replace x2 := pw_cell_below b3 x2; replace y0 := pw_cell_below b3 y0; replace y1 := pw_cell_below b3 y1; clear b3; have n0 := (HN.out.below hb3).c 0 _ rfl; have n1 := (HN.out.below hb3).c 1 _ rfl; clear hb3)
        all_goals
          refine bodyPost_ret (v := .tuple #[.slice (some ⟨_, 0, none⟩) 1 1, .slice (some ⟨_, 0, none⟩) 1 1]) (by simp [results, Try.results136, go_sem]; exact ⟨rfl, rfl⟩) rfl ⟨_, _, rfl, ?_, ?_, ?_⟩
          · rw [HA2.out.1]
            first
              | exact Kd.R_alloc (R_end1 _ p rfl (by have := B3.out.size; simp; try omega)) _
              | exact R_end1 _ p rfl (by have := B3.out.size; simp; try omega)
              | exact R_end1 _ p (by simp) (by have := B3.out.size; simp; try omega)
          · rw [HA2.out.2]
            first
              | exact R_int1 _ (0) rfl (by have := B3.out.size; simp; try omega)
              | exact R_int1 _ (0) (by simp) (by have := B3.out.size; simp; try omega)
              | exact Kd.R_alloc (R_int1 _ (0) rfl (by have := B3.out.size; simp; try omega)) _
              | exact Kd.R_alloc (R_int1 _ (0) (by simp) (by have := B3.out.size; simp; try omega)) _
          · repeat (first | (with_reducible exact Below.refl _ _) | (with_reducible exact B3.out) | (with_reducible refine below_drew ?_) | (with_reducible refine below_drewN' ?_ _) | (with_reducible refine below_alloc ?_ _))
      ·
        have HA := Aside0.mk (aJ2 (j := ⟨2, jn, je⟩) (q := 1) rfl)
        obtain ⟨y0, y1⟩ := end0 HG.out (ad := ad) rfl (by omega)
        obtain ⟨p, hp⟩ : ∃ p, p = je.getD 0 default := ⟨_, rfl⟩
        rw [← hp] at y0 y1
        have HA2 : Aside0 (acrossG n x = [p] ∧ howG n x = [0]) := ⟨by rw [HV.out.1, HV.out.2, HA.out.1, HA.out.2]; rw [hp]; exact ⟨rfl, rfl⟩⟩
        clear hp HA HV
        go_enter Try.func136, Try.ntmps136
        go_wp2_with (go_at_call 134; rw [← HW.out]; refine (at_any n ((A0, c0), (some ad0, c1)) x _ (HR.out.below fb.out)).mono ?_; rintro e w3 ⟨rfl, hb3⟩; simp only [HAI.out.eq]; have B3 := Aside0.mk (below_more fb.out hb3); have b3 := B3.out; replace x0 := pw_cell_below b3 x0; replace x2 := pw_cell_below b3 x2; replace y0 := pw_cell_below b3 y0; replace y1 := pw_cell_below b3 y1; clear b3; have n0 := (HN.out.below hb3).c 0 _ rfl; have n1 := (HN.out.below hb3).c 1 _ rfl; clear hb3)
        all_goals
          refine bodyPost_ret (v := .tuple #[.slice (some ⟨_, 0, none⟩) 1 1, .slice (some ⟨_, 0, none⟩) 1 1]) (by simp [results, Try.results136, go_sem]; exact ⟨rfl, rfl⟩) rfl ⟨_, _, rfl, ?_, ?_, ?_⟩
          · rw [HA2.out.1]
            first
              | exact Kd.R_alloc (R_end1 _ p rfl (by have := B3.out.size; simp; try omega)) _
              | exact R_end1 _ p rfl (by have := B3.out.size; simp; try omega)
              | exact R_end1 _ p (by simp) (by have := B3.out.size; simp; try omega)
          · rw [HA2.out.2]
            first
              | exact R_int1 _ (0) rfl (by have := B3.out.size; simp; try omega)
              | exact R_int1 _ (0) (by simp) (by have := B3.out.size; simp; try omega)
              | exact Kd.R_alloc (R_int1 _ (0) rfl (by have := B3.out.size; simp; try omega)) _
              | exact Kd.R_alloc (R_int1 _ (0) (by simp) (by have := B3.out.size; simp; try omega)) _
          · repeat (first | (with_reducible exact Below.refl _ _) | (with_reducible exact B3.out) | (with_reducible refine below_drew ?_) | (with_reducible refine below_drewN' ?_ _) | (with_reducible refine below_alloc ?_ _))
    · have hl : je.length = 3 := by omega
      rw [hl] at HG x2 hgm
      have hqc : q = 0 ∨ q = 1 ∨ q = 2 := by omega
      clear hk1 hk2 hk3 hq
      rcases hqc with rfl | rfl | rfl
      ·
        have HA := Aside0.mk (aJ30 (j := ⟨3, jn, je⟩) rfl)
        obtain ⟨y0, y1⟩ := end1 HG.out (ad := ad) rfl (by omega)
        obtain ⟨z0, z1⟩ := end2 HG.out (ad := ad) rfl (by omega)
        obtain ⟨p, hp⟩ : ∃ p, p = je.getD 1 default := ⟨_, rfl⟩
        rw [← hp] at y0 y1
        obtain ⟨r, hr⟩ : ∃ p, p = je.getD 2 default := ⟨_, rfl⟩
        rw [← hr] at z0 z1
        have HA2 : Aside0 (acrossG n x = [p, r] ∧ howG n x = [1, 2]) := ⟨by rw [HV.out.1, HV.out.2, HA.out.1, HA.out.2]; rw [hp, hr]; exact ⟨rfl, rfl⟩⟩
        clear hp hr HA HV
        go_enter Try.func136, Try.ntmps136
        go_wp2_with (go_at_call 134; rw [← HW.out]; refine (at_any n ((A0, c0), (some ad0, c1)) x _ (HR.out.below fb.out)).mono ?_; rintro e w3 ⟨rfl, hb3⟩; simp only [HAI.out.eq]; have B3 := Aside0.mk (below_more fb.out hb3); have b3 := B3.out; replace x0 := pw_cell_below b3 x0; replace x2 := pw_cell_below b3 x2; replace y0 := pw_cell_below b3 y0; replace y1 := pw_cell_below b3 y1; replace z0 := pw_cell_below b3 z0; replace z1 := pw_cell_below b3 z1; have y0' := pw_cell_below (below_alloc (Below.refl _ _) (.cells #[.int .i64 1, .int .i64 2] 3)) y0; have y1' := pw_cell_below (below_alloc (Below.refl _ _) (.cells #[.int .i64 1, .int .i64 2] 3)) y1; have z0' := pw_cell_below (below_alloc (Below.refl _ _) (.cells #[.int .i64 1, .int .i64 2] 3)) z0; have z1' := pw_cell_below (below_alloc (Below.refl _ _) (.cells #[.int .i64 1, .int .i64 2] 3)) z1; clear b3; have n0 := (HN.out.below hb3).c 0 _ rfl; have n1 := (HN.out.below hb3).c 1 _ rfl; clear hb3)
        go_region
        all_goals try go_wp2
        all_goals
          refine bodyPost_ret (v := .tuple #[.slice (some ⟨_, 0, none⟩) 2 2, .slice (some ⟨_, 0, none⟩) 2 2]) (by simp [results, Try.results136, go_sem]; exact ⟨rfl, rfl⟩) rfl ⟨_, _, rfl, ?_, ?_, ?_⟩
          · rw [HA2.out.1]
            first
              | exact Kd.R_alloc (R_end2 _ p r rfl (by have := B3.out.size; simp; try omega)) _
              | exact R_end2 _ p r rfl (by have := B3.out.size; simp; try omega)
              | exact R_end2 _ p r (by simp) (by have := B3.out.size; simp; try omega)
          · rw [HA2.out.2]
            first
              | exact R_int2 _ (1) (2) rfl (by have := B3.out.size; simp; try omega)
              | exact R_int2 _ (1) (2) (by simp) (by have := B3.out.size; simp; try omega)
              | exact Kd.R_alloc (R_int2 _ (1) (2) rfl (by have := B3.out.size; simp; try omega)) _
              | exact Kd.R_alloc (R_int2 _ (1) (2) (by simp) (by have := B3.out.size; simp; try omega)) _
          · repeat (first | (with_reducible exact Below.refl _ _) | (with_reducible exact B3.out) | (with_reducible refine below_drew ?_) | (with_reducible refine below_drewN' ?_ _) | (with_reducible refine below_alloc ?_ _))
      ·
        have HA := Aside0.mk (aJ3 (j := ⟨3, jn, je⟩) (q := 1) rfl (by omega))
        obtain ⟨y0, y1⟩ := end0 HG.out (ad := ad) rfl (by omega)
        obtain ⟨p, hp⟩ : ∃ p, p = je.getD 0 default := ⟨_, rfl⟩
        rw [← hp] at y0 y1
        have HA2 : Aside0 (acrossG n x = [p] ∧ howG n x = [1]) := ⟨by rw [HV.out.1, HV.out.2, HA.out.1, HA.out.2]; rw [hp]; exact ⟨rfl, rfl⟩⟩
        clear hp HA HV
        go_enter Try.func136, Try.ntmps136
        go_wp2_with (go_at_call 134; rw [← HW.out]; refine (at_any n ((A0, c0), (some ad0, c1)) x _ (HR.out.below fb.out)).mono ?_; rintro e w3 ⟨rfl, hb3⟩; simp only [HAI.out.eq]; have B3 := Aside0.mk (below_more fb.out hb3); have b3 := B3.out; replace x0 := pw_cell_below b3 x0; replace x2 := pw_cell_below b3 x2; replace y0 := pw_cell_below b3 y0; replace y1 := pw_cell_below b3 y1; clear b3; have n0 := (HN.out.below hb3).c 0 _ rfl; have n1 := (HN.out.below hb3).c 1 _ rfl; clear hb3)
        all_goals
          refine bodyPost_ret (v := .tuple #[.slice (some ⟨_, 0, none⟩) 1 1, .slice (some ⟨_, 0, none⟩) 1 1]) (by simp [results, Try.results136, go_sem]; exact ⟨rfl, rfl⟩) rfl ⟨_, _, rfl, ?_, ?_, ?_⟩
          · rw [HA2.out.1]
            first
              | exact Kd.R_alloc (R_end1 _ p rfl (by have := B3.out.size; simp; try omega)) _
              | exact R_end1 _ p rfl (by have := B3.out.size; simp; try omega)
              | exact R_end1 _ p (by simp) (by have := B3.out.size; simp; try omega)
          · rw [HA2.out.2]
            first
              | exact R_int1 _ (1) rfl (by have := B3.out.size; simp; try omega)
              | exact R_int1 _ (1) (by simp) (by have := B3.out.size; simp; try omega)
              | exact Kd.R_alloc (R_int1 _ (1) rfl (by have := B3.out.size; simp; try omega)) _
              | exact Kd.R_alloc (R_int1 _ (1) (by simp) (by have := B3.out.size; simp; try omega)) _
          · repeat (first | (with_reducible exact Below.refl _ _) | (with_reducible exact B3.out) | (with_reducible refine below_drew ?_) | (with_reducible refine below_drewN' ?_ _) | (with_reducible refine below_alloc ?_ _))
      ·
        have HA := Aside0.mk (aJ3 (j := ⟨3, jn, je⟩) (q := 2) rfl (by omega))
        obtain ⟨y0, y1⟩ := end0 HG.out (ad := ad) rfl (by omega)
        obtain ⟨p, hp⟩ : ∃ p, p = je.getD 0 default := ⟨_, rfl⟩
        rw [← hp] at y0 y1
        have HA2 : Aside0 (acrossG n x = [p] ∧ howG n x = [2]) := ⟨by rw [HV.out.1, HV.out.2, HA.out.1, HA.out.2]; rw [hp]; exact ⟨rfl, rfl⟩⟩
        clear hp HA HV
        go_enter Try.func136, Try.ntmps136
        go_wp2_with (go_at_call 134; rw [← HW.out]; refine (at_any n ((A0, c0), (some ad0, c1)) x _ (HR.out.below fb.out)).mono ?_; rintro e w3 ⟨rfl, hb3⟩; simp only [HAI.out.eq]; have B3 := Aside0.mk (below_more fb.out hb3); have b3 := B3.out; replace x0 := pw_cell_below b3 x0; replace x2 := pw_cell_below b3 x2; replace y0 := pw_cell_below b3 y0; replace y1 := pw_cell_below b3 y1; clear b3; have n0 := (HN.out.below hb3).c 0 _ rfl; have n1 := (HN.out.below hb3).c 1 _ rfl; clear hb3)
        all_goals
          refine bodyPost_ret (v := .tuple #[.slice (some ⟨_, 0, none⟩) 1 1, .slice (some ⟨_, 0, none⟩) 1 1]) (by simp [results, Try.results136, go_sem]; exact ⟨rfl, rfl⟩) rfl ⟨_, _, rfl, ?_, ?_, ?_⟩
          · rw [HA2.out.1]
            first
              | exact Kd.R_alloc (R_end1 _ p rfl (by have := B3.out.size; simp; try omega)) _
              | exact R_end1 _ p rfl (by have := B3.out.size; simp; try omega)
              | exact R_end1 _ p (by simp) (by have := B3.out.size; simp; try omega)
          · rw [HA2.out.2]
            first
              | exact R_int1 _ (2) rfl (by have := B3.out.size; simp; try omega)
              | exact R_int1 _ (2) (by simp) (by have := B3.out.size; simp; try omega)
              | exact Kd.R_alloc (R_int1 _ (2) rfl (by have := B3.out.size; simp; try omega)) _
              | exact Kd.R_alloc (R_int1 _ (2) (by simp) (by have := B3.out.size; simp; try omega)) _
          · repeat (first | (with_reducible exact Below.refl _ _) | (with_reducible exact B3.out) | (with_reducible refine below_drew ?_) | (with_reducible refine below_drewN' ?_ _) | (with_reducible refine below_alloc ?_ _))
    · have hl : je.length = 4 := by omega
      rw [hl] at HG x2 hgm
      have hqc : q = 0 ∨ q = 1 ∨ q = 2 ∨ q = 3 := by omega
      clear hk1 hk2 hk3 hq
      rcases hqc with rfl | rfl | rfl | rfl
      ·
        have HA := Aside0.mk (aJ4 (j := ⟨4, jn, je⟩) (q := 0) rfl)
        obtain ⟨y0, y1⟩ := end1 HG.out (ad := ad) rfl (by omega)
        obtain ⟨p, hp⟩ : ∃ p, p = je.getD 1 default := ⟨_, rfl⟩
        rw [← hp] at y0 y1
        have HA2 : Aside0 (acrossG n x = [p] ∧ howG n x = [0]) := ⟨by rw [HV.out.1, HV.out.2, HA.out.1, HA.out.2]; rw [hp]; exact ⟨rfl, rfl⟩⟩
        clear hp HA HV
        have hbit : bits .xor .i64 (0 : Int) 1 = 1 := by kernel_rfl
        go_enter Try.func136, Try.ntmps136
        go_wp2_with (go_at_call 134; rw [← HW.out]; refine (at_any n ((A0, c0), (some ad0, c1)) x _ (HR.out.below fb.out)).mono ?_; rintro e w3 ⟨rfl, hb3⟩; simp only [HAI.out.eq]; have B3 := Aside0.mk (below_more fb.out hb3); have b3 := B3.out; replace x0 := pw_cell_below b3 x0; replace x2 := pw_cell_below b3 x2; replace y0 := pw_cell_below b3 y0; replace y1 := pw_cell_below b3 y1; clear b3; have n0 := (HN.out.below hb3).c 0 _ rfl; have n1 := (HN.out.below hb3).c 1 _ rfl; clear hb3)
        all_goals
          refine bodyPost_ret (v := .tuple #[.slice (some ⟨_, 0, none⟩) 1 1, .slice (some ⟨_, 0, none⟩) 1 1]) (by simp [results, Try.results136, go_sem]; exact ⟨rfl, rfl⟩) rfl ⟨_, _, rfl, ?_, ?_, ?_⟩
          · rw [HA2.out.1]
            first
              | exact Kd.R_alloc (R_end1 _ p rfl (by have := B3.out.size; simp; try omega)) _
              | exact R_end1 _ p rfl (by have := B3.out.size; simp; try omega)
              | exact R_end1 _ p (by simp) (by have := B3.out.size; simp; try omega)
          · rw [HA2.out.2]
            first
              | exact R_int1 _ (0) rfl (by have := B3.out.size; simp; try omega)
              | exact R_int1 _ (0) (by simp) (by have := B3.out.size; simp; try omega)
              | exact Kd.R_alloc (R_int1 _ (0) rfl (by have := B3.out.size; simp; try omega)) _
              | exact Kd.R_alloc (R_int1 _ (0) (by simp) (by have := B3.out.size; simp; try omega)) _
          · repeat (first | (with_reducible exact Below.refl _ _) | (with_reducible exact B3.out) | (with_reducible refine below_drew ?_) | (with_reducible refine below_drewN' ?_ _) | (with_reducible refine below_alloc ?_ _))
      ·
        have HA := Aside0.mk (aJ4 (j := ⟨4, jn, je⟩) (q := 1) rfl)
        obtain ⟨y0, y1⟩ := end0 HG.out (ad := ad) rfl (by omega)
        obtain ⟨p, hp⟩ : ∃ p, p = je.getD 0 default := ⟨_, rfl⟩
        rw [← hp] at y0 y1
        have HA2 : Aside0 (acrossG n x = [p] ∧ howG n x = [0]) := ⟨by rw [HV.out.1, HV.out.2, HA.out.1, HA.out.2]; rw [hp]; exact ⟨rfl, rfl⟩⟩
        clear hp HA HV
        have hbit : bits .xor .i64 (1 : Int) 1 = 0 := by kernel_rfl
        go_enter Try.func136, Try.ntmps136
        go_wp2_with (go_at_call 134; rw [← HW.out]; refine (at_any n ((A0, c0), (some ad0, c1)) x _ (HR.out.below fb.out)).mono ?_; rintro e w3 ⟨rfl, hb3⟩; simp only [HAI.out.eq]; have B3 := Aside0.mk (below_more fb.out hb3); have b3 := B3.out; replace x0 := pw_cell_below b3 x0; replace x2 := pw_cell_below b3 x2; replace y0 := pw_cell_below b3 y0; replace y1 := pw_cell_below b3 y1; clear b3; have n0 := (HN.out.below hb3).c 0 _ rfl; have n1 := (HN.out.below hb3).c 1 _ rfl; clear hb3)
        all_goals
          refine bodyPost_ret (v := .tuple #[.slice (some ⟨_, 0, none⟩) 1 1, .slice (some ⟨_, 0, none⟩) 1 1]) (by simp [results, Try.results136, go_sem]; exact ⟨rfl, rfl⟩) rfl ⟨_, _, rfl, ?_, ?_, ?_⟩
          · rw [HA2.out.1]
            first
              | exact Kd.R_alloc (R_end1 _ p rfl (by have := B3.out.size; simp; try omega)) _
              | exact R_end1 _ p rfl (by have := B3.out.size; simp; try omega)
              | exact R_end1 _ p (by simp) (by have := B3.out.size; simp; try omega)
          · rw [HA2.out.2]
            first
              | exact R_int1 _ (0) rfl (by have := B3.out.size; simp; try omega)
              | exact R_int1 _ (0) (by simp) (by have := B3.out.size; simp; try omega)
              | exact Kd.R_alloc (R_int1 _ (0) rfl (by have := B3.out.size; simp; try omega)) _
              | exact Kd.R_alloc (R_int1 _ (0) (by simp) (by have := B3.out.size; simp; try omega)) _
          · repeat (first | (with_reducible exact Below.refl _ _) | (with_reducible exact B3.out) | (with_reducible refine below_drew ?_) | (with_reducible refine below_drewN' ?_ _) | (with_reducible refine below_alloc ?_ _))
      ·
        have HA := Aside0.mk (aJ4 (j := ⟨4, jn, je⟩) (q := 2) rfl)
        obtain ⟨y0, y1⟩ := end3 HG.out (ad := ad) rfl (by omega)
        obtain ⟨p, hp⟩ : ∃ p, p = je.getD 3 default := ⟨_, rfl⟩
        rw [← hp] at y0 y1
        have HA2 : Aside0 (acrossG n x = [p] ∧ howG n x = [0]) := ⟨by rw [HV.out.1, HV.out.2, HA.out.1, HA.out.2]; rw [hp]; exact ⟨rfl, rfl⟩⟩
        clear hp HA HV
        have hbit : bits .xor .i64 (2 : Int) 1 = 3 := by kernel_rfl
        go_enter Try.func136, Try.ntmps136
        go_wp2_with (go_at_call 134; rw [← HW.out]; refine (at_any n ((A0, c0), (some ad0, c1)) x _ (HR.out.below fb.out)).mono ?_; rintro e w3 ⟨rfl, hb3⟩; simp only [HAI.out.eq]; have B3 := Aside0.mk (below_more fb.out hb3); have b3 := B3.out; replace x0 := pw_cell_below b3 x0; replace x2 := pw_cell_below b3 x2; replace y0 := pw_cell_below b3 y0; replace y1 := pw_cell_below b3 y1; clear b3; have n0 := (HN.out.below hb3).c 0 _ rfl; have n1 := (HN.out.below hb3).c 1 _ rfl; clear hb3)
        all_goals
          refine bodyPost_ret (v := .tuple #[.slice (some ⟨_, 0, none⟩) 1 1, .slice (some ⟨_, 0, none⟩) 1 1]) (by simp [results, Try.results136, go_sem]; exact ⟨rfl, rfl⟩) rfl ⟨_, _, rfl, ?_, ?_, ?_⟩
          · rw [HA2.out.1]
            first
              | exact Kd.R_alloc (R_end1 _ p rfl (by have := B3.out.size; simp; try omega)) _
              | exact R_end1 _ p rfl (by have := B3.out.size; simp; try omega)
              | exact R_end1 _ p (by simp) (by have := B3.out.size; simp; try omega)
          · rw [HA2.out.2]
            first
              | exact R_int1 _ (0) rfl (by have := B3.out.size; simp; try omega)
              | exact R_int1 _ (0) (by simp) (by have := B3.out.size; simp; try omega)
              | exact Kd.R_alloc (R_int1 _ (0) rfl (by have := B3.out.size; simp; try omega)) _
              | exact Kd.R_alloc (R_int1 _ (0) (by simp) (by have := B3.out.size; simp; try omega)) _
          · repeat (first | (with_reducible exact Below.refl _ _) | (with_reducible exact B3.out) | (with_reducible refine below_drew ?_) | (with_reducible refine below_drewN' ?_ _) | (with_reducible refine below_alloc ?_ _))
      ·
        have HA := Aside0.mk (aJ4 (j := ⟨4, jn, je⟩) (q := 3) rfl)
        obtain ⟨y0, y1⟩ := end2 HG.out (ad := ad) rfl (by omega)
        obtain ⟨p, hp⟩ : ∃ p, p = je.getD 2 default := ⟨_, rfl⟩
        rw [← hp] at y0 y1
        have HA2 : Aside0 (acrossG n x = [p] ∧ howG n x = [0]) := ⟨by rw [HV.out.1, HV.out.2, HA.out.1, HA.out.2]; rw [hp]; exact ⟨rfl, rfl⟩⟩
        clear hp HA HV
        have hbit : bits .xor .i64 (3 : Int) 1 = 2 := by kernel_rfl
        go_enter Try.func136, Try.ntmps136
        go_wp2_with (go_at_call 134; rw [← HW.out]; refine (at_any n ((A0, c0), (some ad0, c1)) x _ (HR.out.below fb.out)).mono ?_; rintro e w3 ⟨rfl, hb3⟩; simp only [HAI.out.eq]; have B3 := Aside0.mk (below_more fb.out hb3); have b3 := B3.out; replace x0 := pw_cell_below b3 x0; replace x2 := pw_cell_below b3 x2; replace y0 := pw_cell_below b3 y0; replace y1 := pw_cell_below b3 y1; clear b3; have n0 := (HN.out.below hb3).c 0 _ rfl; have n1 := (HN.out.below hb3).c 1 _ rfl; clear hb3)
        all_goals
          refine bodyPost_ret (v := .tuple #[.slice (some ⟨_, 0, none⟩) 1 1, .slice (some ⟨_, 0, none⟩) 1 1]) (by simp [results, Try.results136, go_sem]; exact ⟨rfl, rfl⟩) rfl ⟨_, _, rfl, ?_, ?_, ?_⟩
          · rw [HA2.out.1]
            first
              | exact Kd.R_alloc (R_end1 _ p rfl (by have := B3.out.size; simp; try omega)) _
              | exact R_end1 _ p rfl (by have := B3.out.size; simp; try omega)
              | exact R_end1 _ p (by simp) (by have := B3.out.size; simp; try omega)
          · rw [HA2.out.2]
            first
              | exact R_int1 _ (0) rfl (by have := B3.out.size; simp; try omega)
              | exact R_int1 _ (0) (by simp) (by have := B3.out.size; simp; try omega)
              | exact Kd.R_alloc (R_int1 _ (0) rfl (by have := B3.out.size; simp; try omega)) _
              | exact Kd.R_alloc (R_int1 _ (0) (by simp) (by have := B3.out.size; simp; try omega)) _
          · repeat (first | (with_reducible exact Below.refl _ _) | (with_reducible exact B3.out) | (with_reducible refine below_drew ?_) | (with_reducible refine below_drewN' ?_ _) | (with_reducible refine below_alloc ?_ _))
end Go.Proofs.Ytckcffjnffcjcaa
