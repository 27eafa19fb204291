/- Contract of l3over: over a joint, or why not. Conditions: the net fits, the lies are good. -/
import Derived.Test.YtckcffjnffcjcaaDr3
set_option linter.unusedVariables false
set_option linter.unusedSimpArgs false
namespace Go.Proofs.Ytckcffjnffcjcaa
open Go.RowKit Go.Proofs.YtckcffjnffcjcaaW.PrintWords
theorem box3 (w : World) (a b c : List Value) (s t r : TypeId) : ∃ W0, W0 = ((w.alloc (.cells a.toArray s)).alloc (.cells b.toArray t)).alloc (.cells c.toArray r) ∧ Bx W0 w.heap.size a ∧ Bx W0 (w.heap.size + 1) b ∧ Bx W0 (w.heap.size + 1 + 1) c ∧ Below w.heap.size w W0 := by
  obtain ⟨W0, h0, hN, hS, fb, hz⟩ := box2 w a b s t
  refine ⟨_, rfl, ?_, ?_, ?_, ?_⟩
  · rw [← h0]; exact hN.alloc _
  · rw [← h0]; exact hS.alloc _
  · rw [← h0]; exact Bx.new' _ _ _ hz.symm
  · rw [← h0]; exact below_alloc fb _
set_option maxRecDepth 100000 in
set_option maxHeartbeats 4000000 in
theorem l3over_any (n : NetT) (u : (Option Addr × Nat) × (Option Addr × Nat)) (v : Option Addr × Nat) (lies : List Int) (x : EndT) (w : World) (hr : RdNet 67 w u n) (hl : Kd.C (Kd.int .i64) w v.1 lies.length lies) (hg : Good n) (hlb : liesB n lies = true) (he : endB n x = true) :
    Calls Try.prog 172 #[.agg #[.slice u.1.1 n.pieces.length u.1.2, .slice u.2.1 n.joints.length u.2.2], .slice v.1 lies.length v.2, .agg #[.int .i64 x.piece, .int .i64 x.side]] w
      fun e w' => e = .returned (.tuple #[.agg #[.int .i64 (overL n lies x).2.piece, .int .i64 (overL n lies x).2.side], .int .i64 (overL n lies x).1, .int .i64 (iOf n x)]) ∧ Below w.heap.size w w' := by
  have HR := Aside0.mk hr
  have hjm := hr.2.1.2.1
  have hlm := hl.2.1
  have HL := Aside0.mk hl
  obtain ⟨i, q, ha⟩ := hg.at_ he
  obtain ⟨hk1, hk2, hk3, _⟩ := hg.kindAt ha.hi
  have hi := ha.hi
  have hq := ha.hq
  have hll := liesB_iff.1 hlb
  obtain ⟨hy0, hy1, hy2⟩ := hll.2 i (by rw [hll.1]; exact ha.hi)
  have hil : i < lies.length := by rw [hll.1]; exact ha.hi
  have HI := Aside0.mk ha.i
  have HK := Aside0.mk ha.k
  have HJ := Aside0.mk ha.j
  have HA := Aside0.mk ha
  clear hr hl hll hlb he hg
  obtain ⟨⟨A0, c0⟩, ⟨A1, c1⟩⟩ := u
  obtain ⟨A2, c2⟩ := v
  simp only at HL ⊢
  obtain ⟨adl, el, yl⟩ := at_Int HL.out i hil
  subst el
  obtain ⟨ad0, A3, k0, e0, x0, x1, x2, m0, g0⟩ := at_Joint HR.out.2.1 i hi
  simp only at e0
  subst e0
  have HO : Aside0 (overL n lies x = if (n.joints.getD i default).kind = 1 then (1, x)
    else if (n.joints.getD i default).kind = 3 then
      if lies.getD i 0 = 0 then (2, x)
      else if q = 0 then (0, (n.joints.getD i default).ends.getD (lies.getD i 0).toNat default)
      else if (q : Int) ≠ lies.getD i 0 then (3, x)
      else (0, (n.joints.getD i default).ends.getD 0 default)
    else (0, (acrossJ (n.joints.getD i default) q).getD 0 default)) := ⟨by unfold overL acrossE; rw [ha.j, ha.i, ha.k]⟩
  obtain ⟨j, hj⟩ : ∃ j, j = n.joints.getD i default := ⟨_, rfl⟩
  rw [← hj] at x0 x1 x2 m0 g0 hk1 hk2 hk3 hq hy2 HO
  obtain ⟨y, hy⟩ : ∃ y, y = lies.getD i 0 := ⟨_, rfl⟩
  rw [← hy] at yl hy0 hy1 hy2 HO
  clear hj hy ha
  obtain ⟨jk, jn, je⟩ := j
  simp only at x0 x1 x2 m0 g0 hk1 hk2 hk3 hq hy2 HO
  obtain ⟨ad, rfl⟩ := C_some g0 (by omega)
  have HG := Aside0.mk g0
  have hgm := g0.2.1
  clear g0
  have iz : (0 : Int) ≤ (i : Int) := by omega
  have hij : (i : Int) < (n.joints.length : Int) := by omega
  have hil' : (i : Int) < (lies.length : Int) := by omega
  obtain ⟨W0, hW0, hN, hS, hX, fb0⟩ := box3 w [.slice A0 n.pieces.length c0, .slice (some ad0) n.joints.length c1] [.int .i64 x.piece, .int .i64 x.side] [.int .i64 0, .int .i64 0] 35 67 67
  have fb := Aside0.mk fb0
  have HN := Aside0.mk hN
  have HS := Aside0.mk hS
  have HX := Aside0.mk hX
  have HW := Aside0.mk hW0
  clear hW0 fb0 hN hS hX
  have hkc : jk = 1 ∨ jk = 2 ∨ jk = 3 ∨ jk = 4 := by omega
  rcases hkc with rfl | rfl | rfl | rfl
  ·
    have HV : Aside0 (overL n lies x = (1, x)) := ⟨by rw [HO.out]; rfl⟩
    clear HO hy2 hk1 hk2 hk3 hq
    go_enter Try.func172, Try.ntmps172
    go_wp2_with (first | (go_at_call 133; rw [← HW.out]; refine (l1at_any n ((A0, c0), (some ad0, c1)) x _ (HR.out.below fb.out)).mono ?_; rintro e w3 ⟨rfl, hb3⟩; simp only [HA.out.eq]; have B3 := Aside0.mk (below_more fb.out hb3); have X3 := Aside0.mk (HX.out.below hb3); have Y3 := Aside0.mk (X3.out.alloc (.cells #[.int .i64 1, .string jn, .slice (some ad) je.length k0] 139)); have S3 := Aside0.mk (HS.out.below hb3); have T3 := Aside0.mk (S3.out.alloc (.cells #[.int .i64 1, .string jn, .slice (some ad) je.length k0] 139)); have C3 := Aside0.mk (below_alloc B3.out (.cells #[.int .i64 1, .string jn, .slice (some ad) je.length k0] 139)); have b3 := B3.out; replace x0 := pw_cell_below b3 x0; replace x1 := pw_cell_below b3 x1; replace x2 := pw_cell_below b3 x2; replace yl := pw_cell_below b3 yl; have n1 := (HN.out.below hb3).c 1 _ rfl; have yl' := pw_cell_below (below_alloc (Below.refl _ _) (.cells #[.int .i64 1, .string jn, .slice (some ad) je.length k0] 139)) yl; clear b3; have s0 := S3.out.c 0 _ rfl; have s1 := S3.out.c 1 _ rfl; have r0 := X3.out.c 0 _ rfl; have r1 := X3.out.c 1 _ rfl; have s0' := T3.out.c 0 _ rfl; have s1' := T3.out.c 1 _ rfl; have r0' := Y3.out.c 0 _ rfl; have r1' := Y3.out.c 1 _ rfl; have f0 := X3.out.f 0; have f1 := X3.out.f 1; have f0' := Y3.out.f 0; have f1' := Y3.out.f 1; have hz3 := Y3.out.lt; clear hb3))
    refine bodyPost_ret (v := .tuple #[.agg #[.int .i64 x.piece, .int .i64 x.side], .int .i64 1, .int .i64 i]) (by simp [results, Try.results172, go_sem, r0', r1', f0', f1', hz3]) rfl ⟨by rw [HV.out, HI.out], ?_⟩
    repeat (first | (with_reducible exact Below.refl _ _) | (with_reducible exact C3.out) | (with_reducible exact B3.out) | (with_reducible refine below_drew ?_) | (with_reducible refine below_set ?_ (show w.heap.size ≤ w.heap.size + 1 + 1 by omega)) | (with_reducible refine below_alloc ?_ _))
  ·
    have hl : je.length = 2 := by omega
    have hqc : q = 0 ∨ q = 1 := by omega
    clear hq hk1 hk2 hk3 hy2
    rcases hqc with rfl | rfl
    ·
      obtain ⟨y0, y1⟩ := end1 HG.out (ad := ad) rfl (by omega)
      obtain ⟨p, hp⟩ : ∃ p, p = je.getD 1 default := ⟨_, rfl⟩
      clear y0 y1
      have HA2 : Aside0 (acrossJ ⟨2, jn, je⟩ 0 = [p]) := ⟨by rw [(aJ2 (j := ⟨2, jn, je⟩) (q := 0) rfl).1, hp]; try rfl⟩
      have HL1 : Aside0 ((je.length : Int) = 2) := ⟨by omega⟩
      have HQ : Aside0 (0 < je.length) := ⟨by omega⟩
      have HQ4 : Aside0 ((2 : Int) ≤ 4) := ⟨by omega⟩
      have HV : Aside0 (overL n lies x = (0, p)) := ⟨by rw [HO.out, if_neg (by decide), if_neg (by decide), HA2.out]; rfl⟩
      clear HO hp hl
      go_enter Try.func172, Try.ntmps172
      go_wp2_with (first | (go_at_call 133; rw [← HW.out]; refine (l1at_any n ((A0, c0), (some ad0, c1)) x _ (HR.out.below fb.out)).mono ?_; rintro e w3 ⟨rfl, hb3⟩; simp only [HA.out.eq]; have B3 := Aside0.mk (below_more fb.out hb3); have X3 := Aside0.mk (HX.out.below hb3); have Y3 := Aside0.mk (X3.out.alloc (.cells #[.int .i64 2, .string jn, .slice (some ad) je.length k0] 139)); have S3 := Aside0.mk (HS.out.below hb3); have T3 := Aside0.mk (S3.out.alloc (.cells #[.int .i64 2, .string jn, .slice (some ad) je.length k0] 139)); have C3 := Aside0.mk (below_alloc B3.out (.cells #[.int .i64 2, .string jn, .slice (some ad) je.length k0] 139)); have b3 := B3.out; replace x0 := pw_cell_below b3 x0; replace x1 := pw_cell_below b3 x1; replace x2 := pw_cell_below b3 x2; replace yl := pw_cell_below b3 yl; have n1 := (HN.out.below hb3).c 1 _ rfl; have yl' := pw_cell_below (below_alloc (Below.refl _ _) (.cells #[.int .i64 2, .string jn, .slice (some ad) je.length k0] 139)) yl; clear b3; have s0 := S3.out.c 0 _ rfl; have s1 := S3.out.c 1 _ rfl; have r0 := X3.out.c 0 _ rfl; have r1 := X3.out.c 1 _ rfl; have s0' := T3.out.c 0 _ rfl; have s1' := T3.out.c 1 _ rfl; have r0' := Y3.out.c 0 _ rfl; have r1' := Y3.out.c 1 _ rfl; have f0 := X3.out.f 0; have f1 := X3.out.f 1; have f0' := Y3.out.f 0; have f1' := Y3.out.f 1; have hz3 := Y3.out.lt; clear hb3) | (go_at_call 135; refine (l1across_any ⟨2, jn, je⟩ (some ad) k0 _ _ (Kd.C_below HG.out C3.out) HL1.out HQ.out HQ4.out).mono ?_; rintro e w4 ⟨v4, rfl, hR, hb4⟩; rw [HA2.out] at hR; obtain ⟨A4, c4, e4, hc4, hC⟩ := Kd.R_reads hR; replace hc4 : 1 ≤ c4 := hc4; replace e4 : v4 = .slice A4 1 c4 := e4; subst e4; obtain ⟨ad4, rfl⟩ := C_some hC (by simp); obtain ⟨z0, z1⟩ := end0 hC rfl (by simp); replace z0 : w4.cell? ad4 = some (.int .i64 p.piece) := z0; replace z1 : w4.cell? ⟨ad4.block, ad4.off + 1, none⟩ = some (.int .i64 p.side) := z1; have X4 := Aside0.mk (Y3.out.below hb4); have r0'' := X4.out.c 0 _ rfl; have r1'' := X4.out.c 1 _ rfl; have f0'' := X4.out.f 0; have f1'' := X4.out.f 1; have hz4 := X4.out.lt; have C4 := Aside0.mk (below_more C3.out hb4); clear hR hb4 hC))
      refine bodyPost_ret (v := .tuple #[.agg #[.int .i64 p.piece, .int .i64 p.side], .int .i64 0, .int .i64 i]) (by simp [results, Try.results172, go_sem, r0'', r1'', f0'', f1'', hz4]) rfl ⟨by rw [HV.out, HI.out], ?_⟩
      repeat (first | (with_reducible exact Below.refl _ _) | (with_reducible exact C4.out) | (with_reducible exact B3.out) | (with_reducible refine below_drew ?_) | (with_reducible refine below_set ?_ (show w.heap.size ≤ w.heap.size + 1 + 1 by omega)) | (with_reducible refine below_alloc ?_ _))
    ·
      obtain ⟨y0, y1⟩ := end0 HG.out (ad := ad) rfl (by omega)
      obtain ⟨p, hp⟩ : ∃ p, p = je.getD 0 default := ⟨_, rfl⟩
      clear y0 y1
      have HA2 : Aside0 (acrossJ ⟨2, jn, je⟩ 1 = [p]) := ⟨by rw [(aJ2 (j := ⟨2, jn, je⟩) (q := 1) rfl).1, hp]; try rfl⟩
      have HL1 : Aside0 ((je.length : Int) = 2) := ⟨by omega⟩
      have HQ : Aside0 (1 < je.length) := ⟨by omega⟩
      have HQ4 : Aside0 ((2 : Int) ≤ 4) := ⟨by omega⟩
      have HV : Aside0 (overL n lies x = (0, p)) := ⟨by rw [HO.out, if_neg (by decide), if_neg (by decide), HA2.out]; rfl⟩
      clear HO hp hl
      go_enter Try.func172, Try.ntmps172
      go_wp2_with (first | (go_at_call 133; rw [← HW.out]; refine (l1at_any n ((A0, c0), (some ad0, c1)) x _ (HR.out.below fb.out)).mono ?_; rintro e w3 ⟨rfl, hb3⟩; simp only [HA.out.eq]; have B3 := Aside0.mk (below_more fb.out hb3); have X3 := Aside0.mk (HX.out.below hb3); have Y3 := Aside0.mk (X3.out.alloc (.cells #[.int .i64 2, .string jn, .slice (some ad) je.length k0] 139)); have S3 := Aside0.mk (HS.out.below hb3); have T3 := Aside0.mk (S3.out.alloc (.cells #[.int .i64 2, .string jn, .slice (some ad) je.length k0] 139)); have C3 := Aside0.mk (below_alloc B3.out (.cells #[.int .i64 2, .string jn, .slice (some ad) je.length k0] 139)); have b3 := B3.out; replace x0 := pw_cell_below b3 x0; replace x1 := pw_cell_below b3 x1; replace x2 := pw_cell_below b3 x2; replace yl := pw_cell_below b3 yl; have n1 := (HN.out.below hb3).c 1 _ rfl; have yl' := pw_cell_below (below_alloc (Below.refl _ _) (.cells #[.int .i64 2, .string jn, .slice (some ad) je.length k0] 139)) yl; clear b3; have s0 := S3.out.c 0 _ rfl; have s1 := S3.out.c 1 _ rfl; have r0 := X3.out.c 0 _ rfl; have r1 := X3.out.c 1 _ rfl; have s0' := T3.out.c 0 _ rfl; have s1' := T3.out.c 1 _ rfl; have r0' := Y3.out.c 0 _ rfl; have r1' := Y3.out.c 1 _ rfl; have f0 := X3.out.f 0; have f1 := X3.out.f 1; have f0' := Y3.out.f 0; have f1' := Y3.out.f 1; have hz3 := Y3.out.lt; clear hb3) | (go_at_call 135; refine (l1across_any ⟨2, jn, je⟩ (some ad) k0 _ _ (Kd.C_below HG.out C3.out) HL1.out HQ.out HQ4.out).mono ?_; rintro e w4 ⟨v4, rfl, hR, hb4⟩; rw [HA2.out] at hR; obtain ⟨A4, c4, e4, hc4, hC⟩ := Kd.R_reads hR; replace hc4 : 1 ≤ c4 := hc4; replace e4 : v4 = .slice A4 1 c4 := e4; subst e4; obtain ⟨ad4, rfl⟩ := C_some hC (by simp); obtain ⟨z0, z1⟩ := end0 hC rfl (by simp); replace z0 : w4.cell? ad4 = some (.int .i64 p.piece) := z0; replace z1 : w4.cell? ⟨ad4.block, ad4.off + 1, none⟩ = some (.int .i64 p.side) := z1; have X4 := Aside0.mk (Y3.out.below hb4); have r0'' := X4.out.c 0 _ rfl; have r1'' := X4.out.c 1 _ rfl; have f0'' := X4.out.f 0; have f1'' := X4.out.f 1; have hz4 := X4.out.lt; have C4 := Aside0.mk (below_more C3.out hb4); clear hR hb4 hC))
      refine bodyPost_ret (v := .tuple #[.agg #[.int .i64 p.piece, .int .i64 p.side], .int .i64 0, .int .i64 i]) (by simp [results, Try.results172, go_sem, r0'', r1'', f0'', f1'', hz4]) rfl ⟨by rw [HV.out, HI.out], ?_⟩
      repeat (first | (with_reducible exact Below.refl _ _) | (with_reducible exact C4.out) | (with_reducible exact B3.out) | (with_reducible refine below_drew ?_) | (with_reducible refine below_set ?_ (show w.heap.size ≤ w.heap.size + 1 + 1 by omega)) | (with_reducible refine below_alloc ?_ _))
  ·
    have hl : je.length = 3 := by omega
    have hqc : q = 0 ∨ q = 1 ∨ q = 2 := by omega
    have hyc : y = 0 ∨ y = 1 ∨ y = 2 := by omega
    clear hq hk1 hk2 hk3 hy0 hy1 hy2
    rcases hyc with rfl | rfl | rfl
    ·
      have HV : Aside0 (overL n lies x = (2, x)) := ⟨by rw [HO.out]; rfl⟩
      clear HO hqc hl
      go_enter Try.func172, Try.ntmps172
      go_wp2_with (first | (go_at_call 133; rw [← HW.out]; refine (l1at_any n ((A0, c0), (some ad0, c1)) x _ (HR.out.below fb.out)).mono ?_; rintro e w3 ⟨rfl, hb3⟩; simp only [HA.out.eq]; have B3 := Aside0.mk (below_more fb.out hb3); have X3 := Aside0.mk (HX.out.below hb3); have Y3 := Aside0.mk (X3.out.alloc (.cells #[.int .i64 3, .string jn, .slice (some ad) je.length k0] 139)); have S3 := Aside0.mk (HS.out.below hb3); have T3 := Aside0.mk (S3.out.alloc (.cells #[.int .i64 3, .string jn, .slice (some ad) je.length k0] 139)); have C3 := Aside0.mk (below_alloc B3.out (.cells #[.int .i64 3, .string jn, .slice (some ad) je.length k0] 139)); have b3 := B3.out; replace x0 := pw_cell_below b3 x0; replace x1 := pw_cell_below b3 x1; replace x2 := pw_cell_below b3 x2; replace yl := pw_cell_below b3 yl; have n1 := (HN.out.below hb3).c 1 _ rfl; have yl' := pw_cell_below (below_alloc (Below.refl _ _) (.cells #[.int .i64 3, .string jn, .slice (some ad) je.length k0] 139)) yl; clear b3; have s0 := S3.out.c 0 _ rfl; have s1 := S3.out.c 1 _ rfl; have r0 := X3.out.c 0 _ rfl; have r1 := X3.out.c 1 _ rfl; have s0' := T3.out.c 0 _ rfl; have s1' := T3.out.c 1 _ rfl; have r0' := Y3.out.c 0 _ rfl; have r1' := Y3.out.c 1 _ rfl; have f0 := X3.out.f 0; have f1 := X3.out.f 1; have f0' := Y3.out.f 0; have f1' := Y3.out.f 1; have hz3 := Y3.out.lt; clear hb3))
      refine bodyPost_ret (v := .tuple #[.agg #[.int .i64 x.piece, .int .i64 x.side], .int .i64 2, .int .i64 i]) (by simp [results, Try.results172, go_sem, r0', r1', f0', f1', hz3]) rfl ⟨by rw [HV.out, HI.out], ?_⟩
      repeat (first | (with_reducible exact Below.refl _ _) | (with_reducible exact C3.out) | (with_reducible exact B3.out) | (with_reducible refine below_drew ?_) | (with_reducible refine below_set ?_ (show w.heap.size ≤ w.heap.size + 1 + 1 by omega)) | (with_reducible refine below_alloc ?_ _))
    ·
      rcases hqc with rfl | rfl | rfl
      ·
        obtain ⟨y0, y1⟩ := end1 HG.out (ad := ad) rfl (by omega)
        obtain ⟨p, hp⟩ : ∃ p, p = je.getD 1 default := ⟨_, rfl⟩
        rw [← hp] at y0 y1
        have HV : Aside0 (overL n lies x = (0, p)) := ⟨by rw [HO.out, hp]; rfl⟩
        have hyl : (1 : Int) < (je.length : Int) := by omega
        clear HO hp hl
        go_enter Try.func172, Try.ntmps172
        go_wp2_with (first | (go_at_call 133; rw [← HW.out]; refine (l1at_any n ((A0, c0), (some ad0, c1)) x _ (HR.out.below fb.out)).mono ?_; rintro e w3 ⟨rfl, hb3⟩; simp only [HA.out.eq]; have B3 := Aside0.mk (below_more fb.out hb3); have X3 := Aside0.mk (HX.out.below hb3); have Y3 := Aside0.mk (X3.out.alloc (.cells #[.int .i64 3, .string jn, .slice (some ad) je.length k0] 139)); have S3 := Aside0.mk (HS.out.below hb3); have T3 := Aside0.mk (S3.out.alloc (.cells #[.int .i64 3, .string jn, .slice (some ad) je.length k0] 139)); have C3 := Aside0.mk (below_alloc B3.out (.cells #[.int .i64 3, .string jn, .slice (some ad) je.length k0] 139)); have b3 := B3.out; replace x0 := pw_cell_below b3 x0; replace x1 := pw_cell_below b3 x1; replace x2 := pw_cell_below b3 x2; replace yl := pw_cell_below b3 yl; have n1 := (HN.out.below hb3).c 1 _ rfl; have yl' := pw_cell_below (below_alloc (Below.refl _ _) (.cells #[.int .i64 3, .string jn, .slice (some ad) je.length k0] 139)) yl; replace y0 := pw_cell_below b3 y0; replace y1 := pw_cell_below b3 y1; have y0' := pw_cell_below (below_alloc (Below.refl _ _) (.cells #[.int .i64 3, .string jn, .slice (some ad) je.length k0] 139)) y0; have y1' := pw_cell_below (below_alloc (Below.refl _ _) (.cells #[.int .i64 3, .string jn, .slice (some ad) je.length k0] 139)) y1; clear b3; have s0 := S3.out.c 0 _ rfl; have s1 := S3.out.c 1 _ rfl; have r0 := X3.out.c 0 _ rfl; have r1 := X3.out.c 1 _ rfl; have s0' := T3.out.c 0 _ rfl; have s1' := T3.out.c 1 _ rfl; have r0' := Y3.out.c 0 _ rfl; have r1' := Y3.out.c 1 _ rfl; have f0 := X3.out.f 0; have f1 := X3.out.f 1; have f0' := Y3.out.f 0; have f1' := Y3.out.f 1; have hz3 := Y3.out.lt; clear hb3))
        go_region
        all_goals
          try go_wp2
          refine bodyPost_ret (v := .tuple #[.agg #[.int .i64 p.piece, .int .i64 p.side], .int .i64 0, .int .i64 i]) (by simp [results, Try.results172, go_sem, r0', r1', f0', f1', hz3]) rfl ⟨by rw [HV.out, HI.out], ?_⟩
          repeat (first | (with_reducible exact Below.refl _ _) | (with_reducible exact C3.out) | (with_reducible exact B3.out) | (with_reducible refine below_drew ?_) | (with_reducible refine below_set ?_ (show w.heap.size ≤ w.heap.size + 1 + 1 by omega)) | (with_reducible refine below_alloc ?_ _))
      ·
        obtain ⟨y0, y1⟩ := end0 HG.out (ad := ad) rfl (by omega)
        obtain ⟨p, hp⟩ : ∃ p, p = je.getD 0 default := ⟨_, rfl⟩
        clear y0 y1
        have HA2 : Aside0 (acrossJ ⟨3, jn, je⟩ 1 = [p]) := ⟨by rw [(aJ3 (j := ⟨3, jn, je⟩) (q := 1) rfl (by omega)).1, hp]; try rfl⟩
        have HL1 : Aside0 ((je.length : Int) = 3) := ⟨by omega⟩
        have HQ : Aside0 (1 < je.length) := ⟨by omega⟩
        have HQ4 : Aside0 ((3 : Int) ≤ 4) := ⟨by omega⟩
        have HV : Aside0 (overL n lies x = (0, p)) := ⟨by rw [HO.out, hp]; rfl⟩
        clear HO hp hl
        go_enter Try.func172, Try.ntmps172
        go_wp2_with (first | (go_at_call 133; rw [← HW.out]; refine (l1at_any n ((A0, c0), (some ad0, c1)) x _ (HR.out.below fb.out)).mono ?_; rintro e w3 ⟨rfl, hb3⟩; simp only [HA.out.eq]; have B3 := Aside0.mk (below_more fb.out hb3); have X3 := Aside0.mk (HX.out.below hb3); have Y3 := Aside0.mk (X3.out.alloc (.cells #[.int .i64 3, .string jn, .slice (some ad) je.length k0] 139)); have S3 := Aside0.mk (HS.out.below hb3); have T3 := Aside0.mk (S3.out.alloc (.cells #[.int .i64 3, .string jn, .slice (some ad) je.length k0] 139)); have C3 := Aside0.mk (below_alloc B3.out (.cells #[.int .i64 3, .string jn, .slice (some ad) je.length k0] 139)); have b3 := B3.out; replace x0 := pw_cell_below b3 x0; replace x1 := pw_cell_below b3 x1; replace x2 := pw_cell_below b3 x2; replace yl := pw_cell_below b3 yl; have n1 := (HN.out.below hb3).c 1 _ rfl; have yl' := pw_cell_below (below_alloc (Below.refl _ _) (.cells #[.int .i64 3, .string jn, .slice (some ad) je.length k0] 139)) yl; clear b3; have s0 := S3.out.c 0 _ rfl; have s1 := S3.out.c 1 _ rfl; have r0 := X3.out.c 0 _ rfl; have r1 := X3.out.c 1 _ rfl; have s0' := T3.out.c 0 _ rfl; have s1' := T3.out.c 1 _ rfl; have r0' := Y3.out.c 0 _ rfl; have r1' := Y3.out.c 1 _ rfl; have f0 := X3.out.f 0; have f1 := X3.out.f 1; have f0' := Y3.out.f 0; have f1' := Y3.out.f 1; have hz3 := Y3.out.lt; clear hb3) | (go_at_call 135; refine (l1across_any ⟨3, jn, je⟩ (some ad) k0 _ _ (Kd.C_below HG.out C3.out) HL1.out HQ.out HQ4.out).mono ?_; rintro e w4 ⟨v4, rfl, hR, hb4⟩; rw [HA2.out] at hR; obtain ⟨A4, c4, e4, hc4, hC⟩ := Kd.R_reads hR; replace hc4 : 1 ≤ c4 := hc4; replace e4 : v4 = .slice A4 1 c4 := e4; subst e4; obtain ⟨ad4, rfl⟩ := C_some hC (by simp); obtain ⟨z0, z1⟩ := end0 hC rfl (by simp); replace z0 : w4.cell? ad4 = some (.int .i64 p.piece) := z0; replace z1 : w4.cell? ⟨ad4.block, ad4.off + 1, none⟩ = some (.int .i64 p.side) := z1; have X4 := Aside0.mk (Y3.out.below hb4); have r0'' := X4.out.c 0 _ rfl; have r1'' := X4.out.c 1 _ rfl; have f0'' := X4.out.f 0; have f1'' := X4.out.f 1; have hz4 := X4.out.lt; have C4 := Aside0.mk (below_more C3.out hb4); clear hR hb4 hC))
        refine bodyPost_ret (v := .tuple #[.agg #[.int .i64 p.piece, .int .i64 p.side], .int .i64 0, .int .i64 i]) (by simp [results, Try.results172, go_sem, r0'', r1'', f0'', f1'', hz4]) rfl ⟨by rw [HV.out, HI.out], ?_⟩
        repeat (first | (with_reducible exact Below.refl _ _) | (with_reducible exact C4.out) | (with_reducible exact B3.out) | (with_reducible refine below_drew ?_) | (with_reducible refine below_set ?_ (show w.heap.size ≤ w.heap.size + 1 + 1 by omega)) | (with_reducible refine below_alloc ?_ _))
      ·
        have HV : Aside0 (overL n lies x = (3, x)) := ⟨by rw [HO.out]; rfl⟩
        clear HO hl
        go_enter Try.func172, Try.ntmps172
        go_wp2_with (first | (go_at_call 133; rw [← HW.out]; refine (l1at_any n ((A0, c0), (some ad0, c1)) x _ (HR.out.below fb.out)).mono ?_; rintro e w3 ⟨rfl, hb3⟩; simp only [HA.out.eq]; have B3 := Aside0.mk (below_more fb.out hb3); have X3 := Aside0.mk (HX.out.below hb3); have Y3 := Aside0.mk (X3.out.alloc (.cells #[.int .i64 3, .string jn, .slice (some ad) je.length k0] 139)); have S3 := Aside0.mk (HS.out.below hb3); have T3 := Aside0.mk (S3.out.alloc (.cells #[.int .i64 3, .string jn, .slice (some ad) je.length k0] 139)); have C3 := Aside0.mk (below_alloc B3.out (.cells #[.int .i64 3, .string jn, .slice (some ad) je.length k0] 139)); have b3 := B3.out; replace x0 := pw_cell_below b3 x0; replace x1 := pw_cell_below b3 x1; replace x2 := pw_cell_below b3 x2; replace yl := pw_cell_below b3 yl; have n1 := (HN.out.below hb3).c 1 _ rfl; have yl' := pw_cell_below (below_alloc (Below.refl _ _) (.cells #[.int .i64 3, .string jn, .slice (some ad) je.length k0] 139)) yl; clear b3; have s0 := S3.out.c 0 _ rfl; have s1 := S3.out.c 1 _ rfl; have r0 := X3.out.c 0 _ rfl; have r1 := X3.out.c 1 _ rfl; have s0' := T3.out.c 0 _ rfl; have s1' := T3.out.c 1 _ rfl; have r0' := Y3.out.c 0 _ rfl; have r1' := Y3.out.c 1 _ rfl; have f0 := X3.out.f 0; have f1 := X3.out.f 1; have f0' := Y3.out.f 0; have f1' := Y3.out.f 1; have hz3 := Y3.out.lt; clear hb3))
        refine bodyPost_ret (v := .tuple #[.agg #[.int .i64 x.piece, .int .i64 x.side], .int .i64 3, .int .i64 i]) (by simp [results, Try.results172, go_sem, r0', r1', f0', f1', hz3]) rfl ⟨by rw [HV.out, HI.out], ?_⟩
        repeat (first | (with_reducible exact Below.refl _ _) | (with_reducible exact C3.out) | (with_reducible exact B3.out) | (with_reducible refine below_drew ?_) | (with_reducible refine below_set ?_ (show w.heap.size ≤ w.heap.size + 1 + 1 by omega)) | (with_reducible refine below_alloc ?_ _))
    ·
      rcases hqc with rfl | rfl | rfl
      ·
        obtain ⟨y0, y1⟩ := end2 HG.out (ad := ad) rfl (by omega)
        obtain ⟨p, hp⟩ : ∃ p, p = je.getD 2 default := ⟨_, rfl⟩
        rw [← hp] at y0 y1
        have HV : Aside0 (overL n lies x = (0, p)) := ⟨by rw [HO.out, hp]; rfl⟩
        have hyl : (2 : Int) < (je.length : Int) := by omega
        clear HO hp hl
        go_enter Try.func172, Try.ntmps172
        go_wp2_with (first | (go_at_call 133; rw [← HW.out]; refine (l1at_any n ((A0, c0), (some ad0, c1)) x _ (HR.out.below fb.out)).mono ?_; rintro e w3 ⟨rfl, hb3⟩; simp only [HA.out.eq]; have B3 := Aside0.mk (below_more fb.out hb3); have X3 := Aside0.mk (HX.out.below hb3); have Y3 := Aside0.mk (X3.out.alloc (.cells #[.int .i64 3, .string jn, .slice (some ad) je.length k0] 139)); have S3 := Aside0.mk (HS.out.below hb3); have T3 := Aside0.mk (S3.out.alloc (.cells #[.int .i64 3, .string jn, .slice (some ad) je.length k0] 139)); have C3 := Aside0.mk (below_alloc B3.out (.cells #[.int .i64 3, .string jn, .slice (some ad) je.length k0] 139)); have b3 := B3.out; replace x0 := pw_cell_below b3 x0; replace x1 := pw_cell_below b3 x1; replace x2 := pw_cell_below b3 x2; replace yl := pw_cell_below b3 yl; have n1 := (HN.out.below hb3).c 1 _ rfl; have yl' := pw_cell_below (below_alloc (Below.refl _ _) (.cells #[.int .i64 3, .string jn, .slice (some ad) je.length k0] 139)) yl; replace y0 := pw_cell_below b3 y0; replace y1 := pw_cell_below b3 y1; have y0' := pw_cell_below (below_alloc (Below.refl _ _) (.cells #[.int .i64 3, .string jn, .slice (some ad) je.length k0] 139)) y0; have y1' := pw_cell_below (below_alloc (Below.refl _ _) (.cells #[.int .i64 3, .string jn, .slice (some ad) je.length k0] 139)) y1; clear b3; have s0 := S3.out.c 0 _ rfl; have s1 := S3.out.c 1 _ rfl; have r0 := X3.out.c 0 _ rfl; have r1 := X3.out.c 1 _ rfl; have s0' := T3.out.c 0 _ rfl; have s1' := T3.out.c 1 _ rfl; have r0' := Y3.out.c 0 _ rfl; have r1' := Y3.out.c 1 _ rfl; have f0 := X3.out.f 0; have f1 := X3.out.f 1; have f0' := Y3.out.f 0; have f1' := Y3.out.f 1; have hz3 := Y3.out.lt; clear hb3))
        go_region
        all_goals
          try go_wp2
          refine bodyPost_ret (v := .tuple #[.agg #[.int .i64 p.piece, .int .i64 p.side], .int .i64 0, .int .i64 i]) (by simp [results, Try.results172, go_sem, r0', r1', f0', f1', hz3]) rfl ⟨by rw [HV.out, HI.out], ?_⟩
          repeat (first | (with_reducible exact Below.refl _ _) | (with_reducible exact C3.out) | (with_reducible exact B3.out) | (with_reducible refine below_drew ?_) | (with_reducible refine below_set ?_ (show w.heap.size ≤ w.heap.size + 1 + 1 by omega)) | (with_reducible refine below_alloc ?_ _))
      ·
        have HV : Aside0 (overL n lies x = (3, x)) := ⟨by rw [HO.out]; rfl⟩
        clear HO hl
        go_enter Try.func172, Try.ntmps172
        go_wp2_with (first | (go_at_call 133; rw [← HW.out]; refine (l1at_any n ((A0, c0), (some ad0, c1)) x _ (HR.out.below fb.out)).mono ?_; rintro e w3 ⟨rfl, hb3⟩; simp only [HA.out.eq]; have B3 := Aside0.mk (below_more fb.out hb3); have X3 := Aside0.mk (HX.out.below hb3); have Y3 := Aside0.mk (X3.out.alloc (.cells #[.int .i64 3, .string jn, .slice (some ad) je.length k0] 139)); have S3 := Aside0.mk (HS.out.below hb3); have T3 := Aside0.mk (S3.out.alloc (.cells #[.int .i64 3, .string jn, .slice (some ad) je.length k0] 139)); have C3 := Aside0.mk (below_alloc B3.out (.cells #[.int .i64 3, .string jn, .slice (some ad) je.length k0] 139)); have b3 := B3.out; replace x0 := pw_cell_below b3 x0; replace x1 := pw_cell_below b3 x1; replace x2 := pw_cell_below b3 x2; replace yl := pw_cell_below b3 yl; have n1 := (HN.out.below hb3).c 1 _ rfl; have yl' := pw_cell_below (below_alloc (Below.refl _ _) (.cells #[.int .i64 3, .string jn, .slice (some ad) je.length k0] 139)) yl; clear b3; have s0 := S3.out.c 0 _ rfl; have s1 := S3.out.c 1 _ rfl; have r0 := X3.out.c 0 _ rfl; have r1 := X3.out.c 1 _ rfl; have s0' := T3.out.c 0 _ rfl; have s1' := T3.out.c 1 _ rfl; have r0' := Y3.out.c 0 _ rfl; have r1' := Y3.out.c 1 _ rfl; have f0 := X3.out.f 0; have f1 := X3.out.f 1; have f0' := Y3.out.f 0; have f1' := Y3.out.f 1; have hz3 := Y3.out.lt; clear hb3))
        refine bodyPost_ret (v := .tuple #[.agg #[.int .i64 x.piece, .int .i64 x.side], .int .i64 3, .int .i64 i]) (by simp [results, Try.results172, go_sem, r0', r1', f0', f1', hz3]) rfl ⟨by rw [HV.out, HI.out], ?_⟩
        repeat (first | (with_reducible exact Below.refl _ _) | (with_reducible exact C3.out) | (with_reducible exact B3.out) | (with_reducible refine below_drew ?_) | (with_reducible refine below_set ?_ (show w.heap.size ≤ w.heap.size + 1 + 1 by omega)) | (with_reducible refine below_alloc ?_ _))
      ·
        obtain ⟨y0, y1⟩ := end0 HG.out (ad := ad) rfl (by omega)
        obtain ⟨p, hp⟩ : ∃ p, p = je.getD 0 default := ⟨_, rfl⟩
        clear y0 y1
        have HA2 : Aside0 (acrossJ ⟨3, jn, je⟩ 2 = [p]) := ⟨by rw [(aJ3 (j := ⟨3, jn, je⟩) (q := 2) rfl (by omega)).1, hp]; try rfl⟩
        have HL1 : Aside0 ((je.length : Int) = 3) := ⟨by omega⟩
        have HQ : Aside0 (2 < je.length) := ⟨by omega⟩
        have HQ4 : Aside0 ((3 : Int) ≤ 4) := ⟨by omega⟩
        have HV : Aside0 (overL n lies x = (0, p)) := ⟨by rw [HO.out, hp]; rfl⟩
        clear HO hp hl
        go_enter Try.func172, Try.ntmps172
        go_wp2_with (first | (go_at_call 133; rw [← HW.out]; refine (l1at_any n ((A0, c0), (some ad0, c1)) x _ (HR.out.below fb.out)).mono ?_; rintro e w3 ⟨rfl, hb3⟩; simp only [HA.out.eq]; have B3 := Aside0.mk (below_more fb.out hb3); have X3 := Aside0.mk (HX.out.below hb3); have Y3 := Aside0.mk (X3.out.alloc (.cells #[.int .i64 3, .string jn, .slice (some ad) je.length k0] 139)); have S3 := Aside0.mk (HS.out.below hb3); have T3 := Aside0.mk (S3.out.alloc (.cells #[.int .i64 3, .string jn, .slice (some ad) je.length k0] 139)); have C3 := Aside0.mk (below_alloc B3.out (.cells #[.int .i64 3, .string jn, .slice (some ad) je.length k0] 139)); have b3 := B3.out; replace x0 := pw_cell_below b3 x0; replace x1 := pw_cell_below b3 x1; replace x2 := pw_cell_below b3 x2; replace yl := pw_cell_below b3 yl; have n1 := (HN.out.below hb3).c 1 _ rfl; have yl' := pw_cell_below (below_alloc (Below.refl _ _) (.cells #[.int .i64 3, .string jn, .slice (some ad) je.length k0] 139)) yl; clear b3; have s0 := S3.out.c 0 _ rfl; have s1 := S3.out.c 1 _ rfl; have r0 := X3.out.c 0 _ rfl; have r1 := X3.out.c 1 _ rfl; have s0' := T3.out.c 0 _ rfl; have s1' := T3.out.c 1 _ rfl; have r0' := Y3.out.c 0 _ rfl; have r1' := Y3.out.c 1 _ rfl; have f0 := X3.out.f 0; have f1 := X3.out.f 1; have f0' := Y3.out.f 0; have f1' := Y3.out.f 1; have hz3 := Y3.out.lt; clear hb3) | (go_at_call 135; refine (l1across_any ⟨3, jn, je⟩ (some ad) k0 _ _ (Kd.C_below HG.out C3.out) HL1.out HQ.out HQ4.out).mono ?_; rintro e w4 ⟨v4, rfl, hR, hb4⟩; rw [HA2.out] at hR; obtain ⟨A4, c4, e4, hc4, hC⟩ := Kd.R_reads hR; replace hc4 : 1 ≤ c4 := hc4; replace e4 : v4 = .slice A4 1 c4 := e4; subst e4; obtain ⟨ad4, rfl⟩ := C_some hC (by simp); obtain ⟨z0, z1⟩ := end0 hC rfl (by simp); replace z0 : w4.cell? ad4 = some (.int .i64 p.piece) := z0; replace z1 : w4.cell? ⟨ad4.block, ad4.off + 1, none⟩ = some (.int .i64 p.side) := z1; have X4 := Aside0.mk (Y3.out.below hb4); have r0'' := X4.out.c 0 _ rfl; have r1'' := X4.out.c 1 _ rfl; have f0'' := X4.out.f 0; have f1'' := X4.out.f 1; have hz4 := X4.out.lt; have C4 := Aside0.mk (below_more C3.out hb4); clear hR hb4 hC))
        refine bodyPost_ret (v := .tuple #[.agg #[.int .i64 p.piece, .int .i64 p.side], .int .i64 0, .int .i64 i]) (by simp [results, Try.results172, go_sem, r0'', r1'', f0'', f1'', hz4]) rfl ⟨by rw [HV.out, HI.out], ?_⟩
        repeat (first | (with_reducible exact Below.refl _ _) | (with_reducible exact C4.out) | (with_reducible exact B3.out) | (with_reducible refine below_drew ?_) | (with_reducible refine below_set ?_ (show w.heap.size ≤ w.heap.size + 1 + 1 by omega)) | (with_reducible refine below_alloc ?_ _))
  ·
    have hl : je.length = 4 := by omega
    have hqc : q = 0 ∨ q = 1 ∨ q = 2 ∨ q = 3 := by omega
    clear hq hk1 hk2 hk3 hy2
    rcases hqc with rfl | rfl | rfl | rfl
    ·
      obtain ⟨y0, y1⟩ := end1 HG.out (ad := ad) rfl (by omega)
      obtain ⟨p, hp⟩ : ∃ p, p = je.getD 1 default := ⟨_, rfl⟩
      clear y0 y1
      have HA2 : Aside0 (acrossJ ⟨4, jn, je⟩ 0 = [p]) := ⟨by rw [(aJ4 (j := ⟨4, jn, je⟩) (q := 0) rfl).1, hp]; try rfl⟩
      have HL1 : Aside0 ((je.length : Int) = 4) := ⟨by omega⟩
      have HQ : Aside0 (0 < je.length) := ⟨by omega⟩
      have HQ4 : Aside0 ((4 : Int) ≤ 4) := ⟨by omega⟩
      have HV : Aside0 (overL n lies x = (0, p)) := ⟨by rw [HO.out, if_neg (by decide), if_neg (by decide), HA2.out]; rfl⟩
      clear HO hp hl
      go_enter Try.func172, Try.ntmps172
      go_wp2_with (first | (go_at_call 133; rw [← HW.out]; refine (l1at_any n ((A0, c0), (some ad0, c1)) x _ (HR.out.below fb.out)).mono ?_; rintro e w3 ⟨rfl, hb3⟩; simp only [HA.out.eq]; have B3 := Aside0.mk (below_more fb.out hb3); have X3 := Aside0.mk (HX.out.below hb3); have Y3 := Aside0.mk (X3.out.alloc (.cells #[.int .i64 4, .string jn, .slice (some ad) je.length k0] 139)); have S3 := Aside0.mk (HS.out.below hb3); have T3 := Aside0.mk (S3.out.alloc (.cells #[.int .i64 4, .string jn, .slice (some ad) je.length k0] 139)); have C3 := Aside0.mk (below_alloc B3.out (.cells #[.int .i64 4, .string jn, .slice (some ad) je.length k0] 139)); have b3 := B3.out; replace x0 := pw_cell_below b3 x0; replace x1 := pw_cell_below b3 x1; replace x2 := pw_cell_below b3 x2; replace yl := pw_cell_below b3 yl; have n1 := (HN.out.below hb3).c 1 _ rfl; have yl' := pw_cell_below (below_alloc (Below.refl _ _) (.cells #[.int .i64 4, .string jn, .slice (some ad) je.length k0] 139)) yl; clear b3; have s0 := S3.out.c 0 _ rfl; have s1 := S3.out.c 1 _ rfl; have r0 := X3.out.c 0 _ rfl; have r1 := X3.out.c 1 _ rfl; have s0' := T3.out.c 0 _ rfl; have s1' := T3.out.c 1 _ rfl; have r0' := Y3.out.c 0 _ rfl; have r1' := Y3.out.c 1 _ rfl; have f0 := X3.out.f 0; have f1 := X3.out.f 1; have f0' := Y3.out.f 0; have f1' := Y3.out.f 1; have hz3 := Y3.out.lt; clear hb3) | (go_at_call 135; refine (l1across_any ⟨4, jn, je⟩ (some ad) k0 _ _ (Kd.C_below HG.out C3.out) HL1.out HQ.out HQ4.out).mono ?_; rintro e w4 ⟨v4, rfl, hR, hb4⟩; rw [HA2.out] at hR; obtain ⟨A4, c4, e4, hc4, hC⟩ := Kd.R_reads hR; replace hc4 : 1 ≤ c4 := hc4; replace e4 : v4 = .slice A4 1 c4 := e4; subst e4; obtain ⟨ad4, rfl⟩ := C_some hC (by simp); obtain ⟨z0, z1⟩ := end0 hC rfl (by simp); replace z0 : w4.cell? ad4 = some (.int .i64 p.piece) := z0; replace z1 : w4.cell? ⟨ad4.block, ad4.off + 1, none⟩ = some (.int .i64 p.side) := z1; have X4 := Aside0.mk (Y3.out.below hb4); have r0'' := X4.out.c 0 _ rfl; have r1'' := X4.out.c 1 _ rfl; have f0'' := X4.out.f 0; have f1'' := X4.out.f 1; have hz4 := X4.out.lt; have C4 := Aside0.mk (below_more C3.out hb4); clear hR hb4 hC))
      refine bodyPost_ret (v := .tuple #[.agg #[.int .i64 p.piece, .int .i64 p.side], .int .i64 0, .int .i64 i]) (by simp [results, Try.results172, go_sem, r0'', r1'', f0'', f1'', hz4]) rfl ⟨by rw [HV.out, HI.out], ?_⟩
      repeat (first | (with_reducible exact Below.refl _ _) | (with_reducible exact C4.out) | (with_reducible exact B3.out) | (with_reducible refine below_drew ?_) | (with_reducible refine below_set ?_ (show w.heap.size ≤ w.heap.size + 1 + 1 by omega)) | (with_reducible refine below_alloc ?_ _))
    ·
      obtain ⟨y0, y1⟩ := end0 HG.out (ad := ad) rfl (by omega)
      obtain ⟨p, hp⟩ : ∃ p, p = je.getD 0 default := ⟨_, rfl⟩
      clear y0 y1
      have HA2 : Aside0 (acrossJ ⟨4, jn, je⟩ 1 = [p]) := ⟨by rw [(aJ4 (j := ⟨4, jn, je⟩) (q := 1) rfl).1, hp]; try rfl⟩
      have HL1 : Aside0 ((je.length : Int) = 4) := ⟨by omega⟩
      have HQ : Aside0 (1 < je.length) := ⟨by omega⟩
      have HQ4 : Aside0 ((4 : Int) ≤ 4) := ⟨by omega⟩
      have HV : Aside0 (overL n lies x = (0, p)) := ⟨by rw [HO.out, if_neg (by decide), if_neg (by decide), HA2.out]; rfl⟩
      clear HO hp hl
      go_enter Try.func172, Try.ntmps172
      go_wp2_with (first | (go_at_call 133; rw [← HW.out]; refine (l1at_any n ((A0, c0), (some ad0, c1)) x _ (HR.out.below fb.out)).mono ?_; rintro e w3 ⟨rfl, hb3⟩; simp only [HA.out.eq]; have B3 := Aside0.mk (below_more fb.out hb3); have X3 := Aside0.mk (HX.out.below hb3); have Y3 := Aside0.mk (X3.out.alloc (.cells #[.int .i64 4, .string jn, .slice (some ad) je.length k0] 139)); have S3 := Aside0.mk (HS.out.below hb3); have T3 := Aside0.mk (S3.out.alloc (.cells #[.int .i64 4, .string jn, .slice (some ad) je.length k0] 139)); have C3 := Aside0.mk (below_alloc B3.out (.cells #[.int .i64 4, .string jn, .slice (some ad) je.length k0] 139)); have b3 := B3.out; replace x0 := pw_cell_below b3 x0; replace x1 := pw_cell_below b3 x1; replace x2 := pw_cell_below b3 x2; replace yl := pw_cell_below b3 yl; have n1 := (HN.out.below hb3).c 1 _ rfl; have yl' := pw_cell_below (below_alloc (Below.refl _ _) (.cells #[.int .i64 4, .string jn, .slice (some ad) je.length k0] 139)) yl; clear b3; have s0 := S3.out.c 0 _ rfl; have s1 := S3.out.c 1 _ rfl; have r0 := X3.out.c 0 _ rfl; have r1 := X3.out.c 1 _ rfl; have s0' := T3.out.c 0 _ rfl; have s1' := T3.out.c 1 _ rfl; have r0' := Y3.out.c 0 _ rfl; have r1' := Y3.out.c 1 _ rfl; have f0 := X3.out.f 0; have f1 := X3.out.f 1; have f0' := Y3.out.f 0; have f1' := Y3.out.f 1; have hz3 := Y3.out.lt; clear hb3) | (go_at_call 135; refine (l1across_any ⟨4, jn, je⟩ (some ad) k0 _ _ (Kd.C_below HG.out C3.out) HL1.out HQ.out HQ4.out).mono ?_; rintro e w4 ⟨v4, rfl, hR, hb4⟩; rw [HA2.out] at hR; obtain ⟨A4, c4, e4, hc4, hC⟩ := Kd.R_reads hR; replace hc4 : 1 ≤ c4 := hc4; replace e4 : v4 = .slice A4 1 c4 := e4; subst e4; obtain ⟨ad4, rfl⟩ := C_some hC (by simp); obtain ⟨z0, z1⟩ := end0 hC rfl (by simp); replace z0 : w4.cell? ad4 = some (.int .i64 p.piece) := z0; replace z1 : w4.cell? ⟨ad4.block, ad4.off + 1, none⟩ = some (.int .i64 p.side) := z1; have X4 := Aside0.mk (Y3.out.below hb4); have r0'' := X4.out.c 0 _ rfl; have r1'' := X4.out.c 1 _ rfl; have f0'' := X4.out.f 0; have f1'' := X4.out.f 1; have hz4 := X4.out.lt; have C4 := Aside0.mk (below_more C3.out hb4); clear hR hb4 hC))
      refine bodyPost_ret (v := .tuple #[.agg #[.int .i64 p.piece, .int .i64 p.side], .int .i64 0, .int .i64 i]) (by simp [results, Try.results172, go_sem, r0'', r1'', f0'', f1'', hz4]) rfl ⟨by rw [HV.out, HI.out], ?_⟩
      repeat (first | (with_reducible exact Below.refl _ _) | (with_reducible exact C4.out) | (with_reducible exact B3.out) | (with_reducible refine below_drew ?_) | (with_reducible refine below_set ?_ (show w.heap.size ≤ w.heap.size + 1 + 1 by omega)) | (with_reducible refine below_alloc ?_ _))
    ·
      obtain ⟨y0, y1⟩ := end3 HG.out (ad := ad) rfl (by omega)
      obtain ⟨p, hp⟩ : ∃ p, p = je.getD 3 default := ⟨_, rfl⟩
      clear y0 y1
      have HA2 : Aside0 (acrossJ ⟨4, jn, je⟩ 2 = [p]) := ⟨by rw [(aJ4 (j := ⟨4, jn, je⟩) (q := 2) rfl).1, hp]; try rfl⟩
      have HL1 : Aside0 ((je.length : Int) = 4) := ⟨by omega⟩
      have HQ : Aside0 (2 < je.length) := ⟨by omega⟩
      have HQ4 : Aside0 ((4 : Int) ≤ 4) := ⟨by omega⟩
      have HV : Aside0 (overL n lies x = (0, p)) := ⟨by rw [HO.out, if_neg (by decide), if_neg (by decide), HA2.out]; rfl⟩
      clear HO hp hl
      go_enter Try.func172, Try.ntmps172
      go_wp2_with (first | (go_at_call 133; rw [← HW.out]; refine (l1at_any n ((A0, c0), (some ad0, c1)) x _ (HR.out.below fb.out)).mono ?_; rintro e w3 ⟨rfl, hb3⟩; simp only [HA.out.eq]; have B3 := Aside0.mk (below_more fb.out hb3); have X3 := Aside0.mk (HX.out.below hb3); have Y3 := Aside0.mk (X3.out.alloc (.cells #[.int .i64 4, .string jn, .slice (some ad) je.length k0] 139)); have S3 := Aside0.mk (HS.out.below hb3); have T3 := Aside0.mk (S3.out.alloc (.cells #[.int .i64 4, .string jn, .slice (some ad) je.length k0] 139)); have C3 := Aside0.mk (below_alloc B3.out (.cells #[.int .i64 4, .string jn, .slice (some ad) je.length k0] 139)); have b3 := B3.out; replace x0 := pw_cell_below b3 x0; replace x1 := pw_cell_below b3 x1; replace x2 := pw_cell_below b3 x2; replace yl := pw_cell_below b3 yl; have n1 := (HN.out.below hb3).c 1 _ rfl; have yl' := pw_cell_below (below_alloc (Below.refl _ _) (.cells #[.int .i64 4, .string jn, .slice (some ad) je.length k0] 139)) yl; clear b3; have s0 := S3.out.c 0 _ rfl; have s1 := S3.out.c 1 _ rfl; have r0 := X3.out.c 0 _ rfl; have r1 := X3.out.c 1 _ rfl; have s0' := T3.out.c 0 _ rfl; have s1' := T3.out.c 1 _ rfl; have r0' := Y3.out.c 0 _ rfl; have r1' := Y3.out.c 1 _ rfl; have f0 := X3.out.f 0; have f1 := X3.out.f 1; have f0' := Y3.out.f 0; have f1' := Y3.out.f 1; have hz3 := Y3.out.lt; clear hb3) | (go_at_call 135; refine (l1across_any ⟨4, jn, je⟩ (some ad) k0 _ _ (Kd.C_below HG.out C3.out) HL1.out HQ.out HQ4.out).mono ?_; rintro e w4 ⟨v4, rfl, hR, hb4⟩; rw [HA2.out] at hR; obtain ⟨A4, c4, e4, hc4, hC⟩ := Kd.R_reads hR; replace hc4 : 1 ≤ c4 := hc4; replace e4 : v4 = .slice A4 1 c4 := e4; subst e4; obtain ⟨ad4, rfl⟩ := C_some hC (by simp); obtain ⟨z0, z1⟩ := end0 hC rfl (by simp); replace z0 : w4.cell? ad4 = some (.int .i64 p.piece) := z0; replace z1 : w4.cell? ⟨ad4.block, ad4.off + 1, none⟩ = some (.int .i64 p.side) := z1; have X4 := Aside0.mk (Y3.out.below hb4); have r0'' := X4.out.c 0 _ rfl; have r1'' := X4.out.c 1 _ rfl; have f0'' := X4.out.f 0; have f1'' := X4.out.f 1; have hz4 := X4.out.lt; have C4 := Aside0.mk (below_more C3.out hb4); clear hR hb4 hC))
      refine bodyPost_ret (v := .tuple #[.agg #[.int .i64 p.piece, .int .i64 p.side], .int .i64 0, .int .i64 i]) (by simp [results, Try.results172, go_sem, r0'', r1'', f0'', f1'', hz4]) rfl ⟨by rw [HV.out, HI.out], ?_⟩
      repeat (first | (with_reducible exact Below.refl _ _) | (with_reducible exact C4.out) | (with_reducible exact B3.out) | (with_reducible refine below_drew ?_) | (with_reducible refine below_set ?_ (show w.heap.size ≤ w.heap.size + 1 + 1 by omega)) | (with_reducible refine below_alloc ?_ _))
    ·
      obtain ⟨y0, y1⟩ := end2 HG.out (ad := ad) rfl (by omega)
      obtain ⟨p, hp⟩ : ∃ p, p = je.getD 2 default := ⟨_, rfl⟩
      clear y0 y1
      have HA2 : Aside0 (acrossJ ⟨4, jn, je⟩ 3 = [p]) := ⟨by rw [(aJ4 (j := ⟨4, jn, je⟩) (q := 3) rfl).1, hp]; try rfl⟩
      have HL1 : Aside0 ((je.length : Int) = 4) := ⟨by omega⟩
      have HQ : Aside0 (3 < je.length) := ⟨by omega⟩
      have HQ4 : Aside0 ((4 : Int) ≤ 4) := ⟨by omega⟩
      have HV : Aside0 (overL n lies x = (0, p)) := ⟨by rw [HO.out, if_neg (by decide), if_neg (by decide), HA2.out]; rfl⟩
      clear HO hp hl
      go_enter Try.func172, Try.ntmps172
      go_wp2_with (first | (go_at_call 133; rw [← HW.out]; refine (l1at_any n ((A0, c0), (some ad0, c1)) x _ (HR.out.below fb.out)).mono ?_; rintro e w3 ⟨rfl, hb3⟩; simp only [HA.out.eq]; have B3 := Aside0.mk (below_more fb.out hb3); have X3 := Aside0.mk (HX.out.below hb3); have Y3 := Aside0.mk (X3.out.alloc (.cells #[.int .i64 4, .string jn, .slice (some ad) je.length k0] 139)); have S3 := Aside0.mk (HS.out.below hb3); have T3 := Aside0.mk (S3.out.alloc (.cells #[.int .i64 4, .string jn, .slice (some ad) je.length k0] 139)); have C3 := Aside0.mk (below_alloc B3.out (.cells #[.int .i64 4, .string jn, .slice (some ad) je.length k0] 139)); have b3 := B3.out; replace x0 := pw_cell_below b3 x0; replace x1 := pw_cell_below b3 x1; replace x2 := pw_cell_below b3 x2; replace yl := pw_cell_below b3 yl; have n1 := (HN.out.below hb3).c 1 _ rfl; have yl' := pw_cell_below (below_alloc (Below.refl _ _) (.cells #[.int .i64 4, .string jn, .slice (some ad) je.length k0] 139)) yl; clear b3; have s0 := S3.out.c 0 _ rfl; have s1 := S3.out.c 1 _ rfl; have r0 := X3.out.c 0 _ rfl; have r1 := X3.out.c 1 _ rfl; have s0' := T3.out.c 0 _ rfl; have s1' := T3.out.c 1 _ rfl; have r0' := Y3.out.c 0 _ rfl; have r1' := Y3.out.c 1 _ rfl; have f0 := X3.out.f 0; have f1 := X3.out.f 1; have f0' := Y3.out.f 0; have f1' := Y3.out.f 1; have hz3 := Y3.out.lt; clear hb3) | (go_at_call 135; refine (l1across_any ⟨4, jn, je⟩ (some ad) k0 _ _ (Kd.C_below HG.out C3.out) HL1.out HQ.out HQ4.out).mono ?_; rintro e w4 ⟨v4, rfl, hR, hb4⟩; rw [HA2.out] at hR; obtain ⟨A4, c4, e4, hc4, hC⟩ := Kd.R_reads hR; replace hc4 : 1 ≤ c4 := hc4; replace e4 : v4 = .slice A4 1 c4 := e4; subst e4; obtain ⟨ad4, rfl⟩ := C_some hC (by simp); obtain ⟨z0, z1⟩ := end0 hC rfl (by simp); replace z0 : w4.cell? ad4 = some (.int .i64 p.piece) := z0; replace z1 : w4.cell? ⟨ad4.block, ad4.off + 1, none⟩ = some (.int .i64 p.side) := z1; have X4 := Aside0.mk (Y3.out.below hb4); have r0'' := X4.out.c 0 _ rfl; have r1'' := X4.out.c 1 _ rfl; have f0'' := X4.out.f 0; have f1'' := X4.out.f 1; have hz4 := X4.out.lt; have C4 := Aside0.mk (below_more C3.out hb4); clear hR hb4 hC))
      refine bodyPost_ret (v := .tuple #[.agg #[.int .i64 p.piece, .int .i64 p.side], .int .i64 0, .int .i64 i]) (by simp [results, Try.results172, go_sem, r0'', r1'', f0'', f1'', hz4]) rfl ⟨by rw [HV.out, HI.out], ?_⟩
      repeat (first | (with_reducible exact Below.refl _ _) | (with_reducible exact C4.out) | (with_reducible exact B3.out) | (with_reducible refine below_drew ?_) | (with_reducible refine below_set ?_ (show w.heap.size ≤ w.heap.size + 1 + 1 by omega)) | (with_reducible refine below_alloc ?_ _))
end Go.Proofs.Ytckcffjnffcjcaa
