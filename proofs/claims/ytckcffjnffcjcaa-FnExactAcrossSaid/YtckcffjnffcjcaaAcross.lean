/- Contracts of Across, of the reference and of the program. Conditions: the net fits. -/
import Derived.Test.YtckcffjnffcjcaaOver2
set_option linter.unusedVariables false
set_option linter.unusedSimpArgs false
namespace Go.Proofs.Ytckcffjnffcjcaa
open Go.RowKit Go.Proofs.YtckcffjnffcjcaaW.PrintWords
theorem acrossJ_len (j : JointT) (q : Nat) : (acrossJ j q).length ≤ 2 := by
  unfold acrossJ
  split
  · simp
  · split
    · split <;> simp
    · split <;> simp
theorem acrossV_len (n : NetT) (e : EndT) : (acrossV n e).length ≤ 1000000000000 := by
  unfold acrossV
  split
  · have := acrossJ_len (jOf n e) (kOf n e)
    unfold acrossE
    omega
  · simp
theorem acrossV_bad {n : NetT} {e : EndT} (h : netGood n = false) : acrossV n e = [] := by unfold acrossV; rw [h]; rfl
theorem acrossV_off {n : NetT} {e : EndT} (h : endB n e = false) : acrossV n e = [] := by unfold acrossV; rw [h, Bool.and_false]; rfl
theorem acrossV_at {n : NetT} {e : EndT} (h : netGood n = true) (he : endB n e = true) {i q : Nat} (ha : AtIs n e i q) : acrossV n e = acrossJ (n.joints.getD i default) q := by
  unfold acrossV acrossE; rw [h, he, ha.j, ha.k]; rfl
theorem acrossV_good {n : NetT} {e : EndT} (h : netGood n = true) : acrossV n e = acrossG n e := by
  cases he : endB n e with
  | true =>
    obtain ⟨i, q, ha⟩ := (Good.of h).at_ he
    rw [acrossV_at h he ha, (acrossG_at ha).1]
  | false => rw [acrossV_off he, (acrossG_none (atEnd_off h he)).1]
set_option maxRecDepth 100000 in
set_option maxHeartbeats 1000000 in
theorem specAcross_any (n : NetT) (u : (Option Addr × Nat) × (Option Addr × Nat)) (x : EndT) (w : World) (hr : RdNet 67 w u n) (hf : NetFits n) :
    Calls Try.prog 56 #[.agg #[.slice u.1.1 n.pieces.length u.1.2, .slice u.2.1 n.joints.length u.2.2], .agg #[.int .i64 x.piece, .int .i64 x.side]] w
      fun e w' => ∃ v, e = .returned v ∧ Kd.R kEnd 67 w' w.heap.size (fun _ => True) v (acrossV n x) ∧ Below w.heap.size w w' := by
  have HR := Aside0.mk hr
  have HF := Aside0.mk hf
  have hpm := hr.1.1.2.1
  have hjm := hr.2.1.2.1
  clear hr hf
  obtain ⟨⟨A0, c0⟩, ⟨A1, c1⟩⟩ := u
  obtain ⟨W0, hW0, hN, hS, fb0, hsz⟩ := box2 w [.slice A0 n.pieces.length c0, .slice A1 n.joints.length c1] [.int .i64 x.piece, .int .i64 x.side] 35 67
  have fb := Aside0.mk fb0
  have HN := Aside0.mk hN
  have HS := Aside0.mk hS
  have HW := Aside0.mk hW0
  clear hW0 fb0 hN hS hsz
  cases hg : netGood n with
  | false =>
    have HG := Aside0.mk (acrossV_bad (e := x) hg)
    have HG2 := Aside0.mk hg
    clear hg
    go_enter Try.func56, Try.ntmps56
    go_wp2_with (go_at_call 128; rw [← HW.out]; refine (l1ok_any n ((A0, c0), (A1, c1)) _ (HR.out.below fb.out) HF.out).mono ?_; rintro e w3 ⟨rfl, hb3⟩; rw [HG2.out]; have HN3 := Aside0.mk (HN.out.below hb3); have HS3 := Aside0.mk (HS.out.below hb3); have B3 := Aside0.mk (below_more fb.out hb3); clear hb3)
    go_ret
    exact ⟨_, rfl, by rw [HG.out]; exact Kd.R_nil .., B3.out⟩
  | true =>
    have HG2 := Aside0.mk hg
    cases he : endB n x with
    | false =>
      have HG := Aside0.mk (acrossV_off (n := n) he)
      have HE := Aside0.mk he
      clear hg he
      go_enter Try.func56, Try.ntmps56
      go_wp2_with (go_at_call 128; rw [← HW.out]; refine (l1ok_any n ((A0, c0), (A1, c1)) _ (HR.out.below fb.out) HF.out).mono ?_; rintro e w3 ⟨rfl, hb3⟩; rw [HG2.out]; have HN3 := Aside0.mk (HN.out.below hb3); have HS3 := Aside0.mk (HS.out.below hb3); have B3 := Aside0.mk (below_more fb.out hb3); clear hb3; have n0 := HN3.out.c 0 _ rfl; have n1 := HN3.out.c 1 _ rfl; have m0 := HS3.out.c 0 _ rfl; have m1 := HS3.out.c 1 _ rfl)
      refine (l1end_any n ((A0, c0), (A1, c1)) x _ hpm).mono ?_
      rintro e w4 ⟨rfl, hb4⟩
      rw [HE.out]
      have B4 := Aside0.mk (below_more B3.out hb4)
      clear n0 n1 m0 m1 hb4
      go_wp2
      go_ret
      exact ⟨_, rfl, by rw [HG.out]; exact Kd.R_nil .., B4.out⟩
    | true =>
      have hgd := Good.of hg
      obtain ⟨i, q, ha⟩ := hgd.at_ he
      have HG := Aside0.mk (acrossV_at hg he ha)
      have HE := Aside0.mk he
      have hi := ha.hi
      obtain ⟨hk1, hk2, hk3, _⟩ := hgd.kindAt hi
      have hq := ha.hq
      have HA := Aside0.mk ha
      clear hg he ha hgd
      go_enter Try.func56, Try.ntmps56
      go_wp2_with (go_at_call 128; rw [← HW.out]; refine (l1ok_any n ((A0, c0), (A1, c1)) _ (HR.out.below fb.out) HF.out).mono ?_; rintro e w3 ⟨rfl, hb3⟩; rw [HG2.out]; have HN3 := Aside0.mk (HN.out.below hb3); have HS3 := Aside0.mk (HS.out.below hb3); have B3 := Aside0.mk (below_more fb.out hb3); clear hb3; have n0 := HN3.out.c 0 _ rfl; have n1 := HN3.out.c 1 _ rfl; have m0 := HS3.out.c 0 _ rfl; have m1 := HS3.out.c 1 _ rfl)
      refine (l1end_any n ((A0, c0), (A1, c1)) x _ hpm).mono ?_
      rintro e w4 ⟨rfl, hb4⟩
      rw [HE.out]
      have HN4 := Aside0.mk (HN3.out.below hb4); have HS4 := Aside0.mk (HS3.out.below hb4); have B4 := Aside0.mk (below_more B3.out hb4); clear hb4
      clear n0 n1 m0 m1
      have n0 := HN4.out.c 0 _ rfl
      have n1 := HN4.out.c 1 _ rfl
      have m0 := HS4.out.c 0 _ rfl
      have m1 := HS4.out.c 1 _ rfl
      go_wp2_with fail
      refine (l1at_any n ((A0, c0), (A1, c1)) x _ (HR.out.below B4.out)).mono ?_
      rintro e w5 ⟨rfl, hb5⟩
      simp only [HA.out.eq]
      have HN5 := Aside0.mk (HN4.out.below hb5)
      have B5 := Aside0.mk (below_more B4.out hb5)
      clear n0 n1 m0 m1 hb5
      have n0 := HN5.out.c 0 _ rfl
      have n1 := HN5.out.c 1 _ rfl
      obtain ⟨ad0, A2, k0, e0, x0, x1, x2, m0, g0⟩ := at_Joint (HR.out.below B5.out).2.1 i hi
      simp only at e0
      subst e0
      obtain ⟨j, hj⟩ : ∃ j, j = n.joints.getD i default := ⟨_, rfl⟩
      rw [← hj] at x0 x1 x2 m0 g0 hk1 hk2 hk3 hq
      have HJ := Aside0.mk hj
      have HC := Aside0.mk g0
      clear hj m0 g0
      have iz : (0 : Int) ≤ (i : Int) := by omega
      have hij : (i : Int) < (n.joints.length : Int) := by omega
      go_wp2_with fail
      refine (l1across_any j A2 k0 q _ HC.out hk3 hq hk2).mono ?_
      rintro e w6 ⟨v6, rfl, r6, hb6⟩
      have R6 := Aside0.mk (Kd.R_lower r6 B5.out.size)
      have B6 := Aside0.mk (below_more B5.out hb6)
      clear r6 hb6 n0 n1
      go_wp2
      go_ret
      exact ⟨_, rfl, by rw [HG.out, ← HJ.out]; exact R6.out, B6.out⟩
set_option maxRecDepth 100000 in
set_option maxHeartbeats 1000000 in
theorem implAcross_any (n : NetT) (u : (Option Addr × Nat) × (Option Addr × Nat)) (x : EndT) (w : World) (hr : RdNet 67 w u n) (hf : NetFits n) :
    Calls Try.prog 57 #[.agg #[.slice u.1.1 n.pieces.length u.1.2, .slice u.2.1 n.joints.length u.2.2], .agg #[.int .i64 x.piece, .int .i64 x.side]] w
      fun e w' => ∃ v, e = .returned v ∧ Kd.R kEnd 67 w' w.heap.size (fun _ => True) v (acrossV n x) ∧ Below w.heap.size w w' := by
  have HR := Aside0.mk hr
  have HF := Aside0.mk hf
  clear hr hf
  obtain ⟨⟨A0, c0⟩, ⟨A1, c1⟩⟩ := u
  obtain ⟨W0, hW0, hN, hS, fb0, hsz⟩ := box2 w [.slice A0 n.pieces.length c0, .slice A1 n.joints.length c1] [.int .i64 x.piece, .int .i64 x.side] 35 67
  have fb := Aside0.mk fb0
  have HN := Aside0.mk hN
  have HS := Aside0.mk hS
  have HW := Aside0.mk hW0
  clear hW0 fb0 hN hS hsz
  cases hg : netGood n with
  | false =>
    have HG := Aside0.mk (acrossV_bad (e := x) hg)
    have HG2 := Aside0.mk hg
    clear hg
    go_enter Try.func57, Try.ntmps57
    go_wp2_with (go_at_call 130; rw [← HW.out]; refine (good_any n ((A0, c0), (A1, c1)) _ (HR.out.below fb.out) HF.out).mono ?_; rintro e w3 ⟨rfl, hb3⟩; rw [HG2.out]; have B3 := Aside0.mk (below_more fb.out hb3); clear hb3)
    go_ret
    exact ⟨_, rfl, by rw [HG.out]; exact Kd.R_nil .., B3.out⟩
  | true =>
    have HG := Aside0.mk (acrossV_good (e := x) hg)
    have HG2 := Aside0.mk hg
    have HGd := Aside0.mk (Good.of hg)
    clear hg
    go_enter Try.func57, Try.ntmps57
    go_wp2_with (go_at_call 130; rw [← HW.out]; refine (good_any n ((A0, c0), (A1, c1)) _ (HR.out.below fb.out) HF.out).mono ?_; rintro e w3 ⟨rfl, hb3⟩; rw [HG2.out]; have HN3 := Aside0.mk (HN.out.below hb3); have HS3 := Aside0.mk (HS.out.below hb3); have B3 := Aside0.mk (below_more fb.out hb3); clear hb3; have n0 := HN3.out.c 0 _ rfl; have n1 := HN3.out.c 1 _ rfl; have m0 := HS3.out.c 0 _ rfl; have m1 := HS3.out.c 1 _ rfl)
    refine (over_any n ((A0, c0), (A1, c1)) x _ (HR.out.below B3.out) HGd.out).mono ?_
    rintro e w5 ⟨v1, v2, rfl, r5, _, hb5⟩
    have R5 := Aside0.mk (Kd.R_lower r5 B3.out.size)
    have B5 := Aside0.mk (below_more B3.out hb5)
    clear n0 n1 m0 m1 hb5 r5
    go_wp2
    go_ret
    exact ⟨_, rfl, by rw [HG.out]; exact R5.out, B5.out⟩
end Go.Proofs.Ytckcffjnffcjcaa
