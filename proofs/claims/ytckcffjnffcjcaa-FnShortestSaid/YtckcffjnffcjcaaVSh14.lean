/- Texts of this work, of each what the claim leans on: Str2. No conditions. -/
import Derived.Test.YtckcffjnffcjcaaVSh13
set_option linter.unusedVariables false
set_option linter.unusedSimpArgs false
namespace Go.Proofs.Ytckcffjnffcjcaa
open Go.RowKit Go.Proofs.YtckcffjnffcjcaaW.PrintWords
theorem str_sok {n : NetT} {p : PathT} {a : SpotT} (h : spotOkB n a = false) : stretchV n p a = [] := stretch_bad (by unfold stretchOk; rw [h]; simp)
set_option maxRecDepth 100000 in
set_option maxHeartbeats 64000000 in
theorem specStretch_any (n : NetT) (u : (Option Addr × Nat) × (Option Addr × Nat)) (p : PathT) (up : (Option Addr × Nat) × (Option Addr × Nat)) (a : SpotT) (w : World) (hr : RdNet 67 w u n) (hp : Kd.C kStep w up.1.1 p.steps.length p.steps) (hf : NetFits n) :
    Calls Try.prog 93 #[.agg #[.slice u.1.1 n.pieces.length u.1.2, .slice u.2.1 n.joints.length u.2.2], .agg #[.bool p.ok, .int .i64 p.far, .slice up.1.1 p.steps.length up.1.2, .slice up.2.1 p.lies.length up.2.2], .agg #[.int .i64 a.piece, .int .i64 a.at_, .int .i64 a.way]] w
      fun e w' => ∃ v, e = .returned v ∧ Kd.R kPart 89 w' w.heap.size (fun _ => True) v (stretchV n p a) ∧ Below w.heap.size w w' := by
  have HR := Aside0.mk hr
  have HF := Aside0.mk hf
  have HC := Aside0.mk hp
  have hml := hp.2.1
  have hnl := hr.1.1.2.1
  clear hr hf hp
  obtain ⟨⟨A0, c0⟩, ⟨A1, c1⟩⟩ := u
  obtain ⟨⟨B0, d0⟩, ⟨B1, d1⟩⟩ := up
  obtain ⟨ap, aa, aw⟩ := a
  obtain ⟨pok, far, l, pls⟩ := p
  simp only at HC hml hnl ⊢
  obtain ⟨W0, hW0, hN, hP, hS, fb0⟩ := box3S w [.slice A0 n.pieces.length c0, .slice A1 n.joints.length c1] [.bool pok, .int .i64 far, .slice B0 l.length d0, .slice B1 pls.length d1] [.int .i64 ap, .int .i64 aa, .int .i64 aw] 35 108 38
  have fb := Aside0.mk fb0
  have HN := Aside0.mk hN
  have HP := Aside0.mk hP
  have HS := Aside0.mk hS
  have HW := Aside0.mk hW0
  clear hW0 fb0 hN hP hS
  cases pok with
  | false =>
    have HV := Aside0.mk (str_ok (n := n) (p := ⟨false, far, l, pls⟩) (a := ⟨ap, aa, aw⟩) rfl)
    have HS0 : Aside0 (∀ W, Below W0.heap.size W0 W → (Below W0.heap.size W0 W ∧ W.cell? ⟨w.heap.size, 0, none⟩ = some (.slice A0 n.pieces.length c0) ∧ W.cell? ⟨w.heap.size, 1, none⟩ = some (.slice A1 n.joints.length c1) ∧ W.cell? ⟨w.heap.size + 1, 0, none⟩ = some (.bool false) ∧ W.cell? ⟨w.heap.size + 1, 1, none⟩ = some (.int .i64 far) ∧ W.cell? ⟨w.heap.size + 1, 2, none⟩ = some (.slice B0 l.length d0) ∧ W.cell? ⟨w.heap.size + 1, 3, none⟩ = some (.slice B1 pls.length d1) ∧ W.cell? ⟨w.heap.size + 1 + 1, 0, none⟩ = some (.int .i64 ap) ∧ W.cell? ⟨w.heap.size + 1 + 1, 1, none⟩ = some (.int .i64 aa) ∧ W.cell? ⟨w.heap.size + 1 + 1, 2, none⟩ = some (.int .i64 aw))) := ⟨fun W hb => ⟨hb, (HN.out.below hb).c 0 _ rfl, (HN.out.below hb).c 1 _ rfl, (HP.out.below hb).c 0 _ rfl, (HP.out.below hb).c 1 _ rfl, (HP.out.below hb).c 2 _ rfl, (HP.out.below hb).c 3 _ rfl, (HS.out.below hb).c 0 _ rfl, (HS.out.below hb).c 1 _ rfl, (HS.out.below hb).c 2 _ rfl⟩⟩
    go_enter Try.func93, Try.ntmps93
    go_wp2_with fail
    rw [← HW.out]
    refine wp_region_held_drew (S := fun W => Below W0.heap.size W0 W ∧ W.cell? ⟨w.heap.size, 0, none⟩ = some (.slice A0 n.pieces.length c0) ∧ W.cell? ⟨w.heap.size, 1, none⟩ = some (.slice A1 n.joints.length c1) ∧ W.cell? ⟨w.heap.size + 1, 0, none⟩ = some (.bool false) ∧ W.cell? ⟨w.heap.size + 1, 1, none⟩ = some (.int .i64 far) ∧ W.cell? ⟨w.heap.size + 1, 2, none⟩ = some (.slice B0 l.length d0) ∧ W.cell? ⟨w.heap.size + 1, 3, none⟩ = some (.slice B1 pls.length d1) ∧ W.cell? ⟨w.heap.size + 1 + 1, 0, none⟩ = some (.int .i64 ap) ∧ W.cell? ⟨w.heap.size + 1 + 1, 1, none⟩ = some (.int .i64 aa) ∧ W.cell? ⟨w.heap.size + 1 + 1, 2, none⟩ = some (.int .i64 aw)) (by kernel_rfl) ?_ (fun hHeld => ?_)
    · exact HS0.out _ (Below.drew (Below.refl _ _))
    refine tkq (i := 0) (v := ?_) rfl (Or.inl ⟨by rfl, ?_⟩) hHeld ?_; rotate_left; · (intro w h; (try dsimp only at h); go_simp; (try with_reducible rfl))
    (try simp only [Act.put, z1, z2, z3, z4, z5, z6])
    refine tkq (i := 1) (v := ?_) rfl (Or.inl ⟨by rfl, ?_⟩) hHeld ?_; rotate_left; · (intro w h; (try dsimp only at h); go_simp; (try with_reducible rfl))
    (try simp only [Act.put, z1, z2, z3, z4, z5, z6])
    refine tkq (i := 2) (v := ?_) rfl (Or.inl ⟨by rfl, ?_⟩) hHeld ?_; rotate_left; · (intro w h; (try dsimp only at h); go_simp; (try with_reducible rfl))
    (try simp only [Act.put, z1, z2, z3, z4, z5, z6])
    refine tkq (i := 3) (v := ?_) rfl (Or.inl ⟨by rfl, ?_⟩) hHeld ?_; rotate_left; · (intro w h; (try dsimp only at h); go_simp; (try with_reducible rfl))
    (try simp only [Act.put, z1, z2, z3, z4, z5, z6])
    refine tkq (i := 4) (v := undef) rfl (Or.inr ⟨by rfl, rfl⟩) hHeld ?_
    (try simp only [Act.put, z1, z2, z3, z4, z5, z6])
    refine tkq (i := 5) (v := undef) rfl (Or.inr ⟨by rfl, rfl⟩) hHeld ?_
    (try simp only [Act.put, z1, z2, z3, z4, z5, z6])
    refine tkq (i := 6) (v := undef) rfl (Or.inr ⟨by rfl, rfl⟩) hHeld ?_
    (try simp only [Act.put, z1, z2, z3, z4, z5, z6])
    refine tkq (i := 7) (v := undef) rfl (Or.inr ⟨by rfl, rfl⟩) hHeld ?_
    (try simp only [Act.put, z1, z2, z3, z4, z5, z6])
    refine tkq (i := 8) (v := ?_) rfl (Or.inl ⟨by rfl, ?_⟩) hHeld ?_; rotate_left; · (intro w h; (try dsimp only at h); go_simp; (try with_reducible rfl))
    (try simp only [Act.put, z1, z2, z3, z4, z5, z6])
    refine tkq (i := 9) (v := ?_) rfl (Or.inl ⟨by rfl, ?_⟩) hHeld ?_; rotate_left; · (intro w h; (try dsimp only at h); go_simp; (try with_reducible rfl))
    (try simp only [Act.put, z1, z2, z3, z4, z5, z6])
    refine tkq (i := 10) (v := undef) rfl (Or.inr ⟨by rfl, rfl⟩) hHeld ?_
    (try simp only [Act.put, z1, z2, z3, z4, z5, z6])
    refine tkq (i := 11) (v := undef) rfl (Or.inr ⟨by rfl, rfl⟩) hHeld ?_
    (try simp only [Act.put, z1, z2, z3, z4, z5, z6])
    refine tkq (i := 12) (v := undef) rfl (Or.inr ⟨by rfl, rfl⟩) hHeld ?_
    (try simp only [Act.put, z1, z2, z3, z4, z5, z6])
    refine tkq (i := 13) (v := undef) rfl (Or.inr ⟨by rfl, rfl⟩) hHeld ?_
    (try simp only [Act.put, z1, z2, z3, z4, z5, z6])
    refine tkq (i := 14) (v := ?_) rfl (Or.inl ⟨by rfl, ?_⟩) hHeld ?_; rotate_left; · (intro w h; (try dsimp only at h); go_simp; (try with_reducible rfl))
    (try simp only [Act.put, z1, z2, z3, z4, z5, z6])
    refine tkq (i := 15) (v := ?_) rfl (Or.inl ⟨by rfl, ?_⟩) hHeld ?_; rotate_left; · (intro w h; (try dsimp only at h); go_simp; (try with_reducible rfl))
    (try simp only [Act.put, z1, z2, z3, z4, z5, z6])
    refine tkq (i := 16) (v := undef) rfl (Or.inr ⟨by rfl, rfl⟩) hHeld ?_
    (try simp only [Act.put, z1, z2, z3, z4, z5, z6])
    refine tkq (i := 17) (v := undef) rfl (Or.inr ⟨by rfl, rfl⟩) hHeld ?_
    (try simp only [Act.put, z1, z2, z3, z4, z5, z6])
    refine tkq (i := 18) (v := undef) rfl (Or.inr ⟨by rfl, rfl⟩) hHeld ?_
    (try simp only [Act.put, z1, z2, z3, z4, z5, z6])
    refine tkq (i := 19) (v := undef) rfl (Or.inr ⟨by rfl, rfl⟩) hHeld ?_
    (try simp only [Act.put, z1, z2, z3, z4, z5, z6])
    refine tkq (i := 20) (v := ?_) rfl (Or.inl ⟨by rfl, ?_⟩) hHeld ?_; rotate_left; · (intro w h; (try dsimp only at h); go_simp; (try with_reducible rfl))
    (try simp only [Act.put, z1, z2, z3, z4, z5, z6])
    refine tkq (i := 21) (v := ?_) rfl (Or.inl ⟨by rfl, ?_⟩) hHeld ?_; rotate_left; · (intro w h; (try dsimp only at h); go_simp; (try with_reducible rfl))
    (try simp only [Act.put, z1, z2, z3, z4, z5, z6])
    refine tkq (i := 22) (v := undef) rfl (Or.inr ⟨by rfl, rfl⟩) hHeld ?_
    (try simp only [Act.put, z1, z2, z3, z4, z5, z6])
    refine tkq (i := 23) (v := undef) rfl (Or.inr ⟨by rfl, rfl⟩) hHeld ?_
    (try simp only [Act.put, z1, z2, z3, z4, z5, z6])
    refine tkq (i := 24) (v := undef) rfl (Or.inr ⟨by rfl, rfl⟩) hHeld ?_
    (try simp only [Act.put, z1, z2, z3, z4, z5, z6])
    refine tkq (i := 25) (v := undef) rfl (Or.inr ⟨by rfl, rfl⟩) hHeld ?_
    (try simp only [Act.put, z1, z2, z3, z4, z5, z6])
    refine tkq (i := 26) (v := ?_) rfl (Or.inl ⟨by rfl, ?_⟩) hHeld ?_; rotate_left; · (intro w h; (try dsimp only at h); go_simp; (try with_reducible rfl))
    (try simp only [Act.put, z1, z2, z3, z4, z5, z6])
    refine tkq (i := 27) (v := ?_) rfl (Or.inl ⟨by rfl, ?_⟩) hHeld ?_; rotate_left; · (intro w h; (try dsimp only at h); go_simp; (try with_reducible rfl))
    (try simp only [Act.put, z1, z2, z3, z4, z5, z6])
    refine tkq (i := 28) (v := undef) rfl (Or.inr ⟨by rfl, rfl⟩) hHeld ?_
    (try simp only [Act.put, z1, z2, z3, z4, z5, z6])
    refine tkq (i := 29) (v := undef) rfl (Or.inr ⟨by rfl, rfl⟩) hHeld ?_
    (try simp only [Act.put, z1, z2, z3, z4, z5, z6])
    refine tkq (i := 30) (v := undef) rfl (Or.inr ⟨by rfl, rfl⟩) hHeld ?_
    (try simp only [Act.put, z1, z2, z3, z4, z5, z6])
    refine tkq (i := 31) (v := undef) rfl (Or.inr ⟨by rfl, rfl⟩) hHeld ?_
    (try simp only [Act.put, z1, z2, z3, z4, z5, z6])
    refine tkq (i := 32) (v := undef) rfl (Or.inr ⟨by rfl, rfl⟩) hHeld ?_
    (try simp only [Act.put, z1, z2, z3, z4, z5, z6])
    refine tkq (i := 33) (v := undef) rfl (Or.inr ⟨by rfl, rfl⟩) hHeld ?_
    (try simp only [Act.put, z1, z2, z3, z4, z5, z6])
    refine tkq (i := 34) (v := undef) rfl (Or.inr ⟨by rfl, rfl⟩) hHeld ?_
    (try simp only [Act.put, z1, z2, z3, z4, z5, z6])
    refine tkq (i := 35) (v := ?_) rfl (Or.inl ⟨by rfl, ?_⟩) hHeld ?_; rotate_left; · (intro w h; (try dsimp only at h); go_simp; (try with_reducible rfl))
    (try simp only [Act.put, z1, z2, z3, z4, z5, z6])
    refine wpAnyH_done (by kernel_rfl) ?_ _
    go_wp2_with fail
    go_ret
    exact ⟨_, rfl, by rw [HV.out]; exact Kd.R_nil .., (by first | (with_reducible exact below_more fb.out (by assumption)) | exact below_drew fb.out)⟩
  | true =>
    cases hg : spotOkB n ⟨ap, aa, aw⟩ with
    | false =>
      have HSK := Aside0.mk hg
      have HV := Aside0.mk (str_sok (p := ⟨true, far, l, pls⟩) hg)
      clear hg
      have HS0 : Aside0 (∀ W, Below W0.heap.size W0 W → (Below W0.heap.size W0 W ∧ W.cell? ⟨w.heap.size, 0, none⟩ = some (.slice A0 n.pieces.length c0) ∧ W.cell? ⟨w.heap.size, 1, none⟩ = some (.slice A1 n.joints.length c1) ∧ W.cell? ⟨w.heap.size + 1, 0, none⟩ = some (.bool true) ∧ W.cell? ⟨w.heap.size + 1, 1, none⟩ = some (.int .i64 far) ∧ W.cell? ⟨w.heap.size + 1, 2, none⟩ = some (.slice B0 l.length d0) ∧ W.cell? ⟨w.heap.size + 1, 3, none⟩ = some (.slice B1 pls.length d1) ∧ W.cell? ⟨w.heap.size + 1 + 1, 0, none⟩ = some (.int .i64 ap) ∧ W.cell? ⟨w.heap.size + 1 + 1, 1, none⟩ = some (.int .i64 aa) ∧ W.cell? ⟨w.heap.size + 1 + 1, 2, none⟩ = some (.int .i64 aw))) := ⟨fun W hb => ⟨hb, (HN.out.below hb).c 0 _ rfl, (HN.out.below hb).c 1 _ rfl, (HP.out.below hb).c 0 _ rfl, (HP.out.below hb).c 1 _ rfl, (HP.out.below hb).c 2 _ rfl, (HP.out.below hb).c 3 _ rfl, (HS.out.below hb).c 0 _ rfl, (HS.out.below hb).c 1 _ rfl, (HS.out.below hb).c 2 _ rfl⟩⟩
      go_enter Try.func93, Try.ntmps93
      go_wp2_with fail
      rw [← HW.out]
      refine wp_region_held_drew (S := fun W => Below W0.heap.size W0 W ∧ W.cell? ⟨w.heap.size, 0, none⟩ = some (.slice A0 n.pieces.length c0) ∧ W.cell? ⟨w.heap.size, 1, none⟩ = some (.slice A1 n.joints.length c1) ∧ W.cell? ⟨w.heap.size + 1, 0, none⟩ = some (.bool true) ∧ W.cell? ⟨w.heap.size + 1, 1, none⟩ = some (.int .i64 far) ∧ W.cell? ⟨w.heap.size + 1, 2, none⟩ = some (.slice B0 l.length d0) ∧ W.cell? ⟨w.heap.size + 1, 3, none⟩ = some (.slice B1 pls.length d1) ∧ W.cell? ⟨w.heap.size + 1 + 1, 0, none⟩ = some (.int .i64 ap) ∧ W.cell? ⟨w.heap.size + 1 + 1, 1, none⟩ = some (.int .i64 aa) ∧ W.cell? ⟨w.heap.size + 1 + 1, 2, none⟩ = some (.int .i64 aw)) (by kernel_rfl) ?_ (fun hHeld => ?_)
      · exact HS0.out _ (Below.drew (Below.refl _ _))
      refine tkq (i := 0) (v := ?_) rfl (Or.inl ⟨by rfl, ?_⟩) hHeld ?_; rotate_left; · (intro w h; (try dsimp only at h); go_simp; (try with_reducible rfl))
      (try simp only [Act.put, z1, z2, z3, z4, z5, z6])
      refine tkq (i := 1) (v := ?_) rfl (Or.inl ⟨by rfl, ?_⟩) hHeld ?_; rotate_left; · (intro w h; (try dsimp only at h); go_simp; (try with_reducible rfl))
      (try simp only [Act.put, z1, z2, z3, z4, z5, z6])
      refine tkq (i := 2) (v := ?_) rfl (Or.inl ⟨by rfl, ?_⟩) hHeld ?_; rotate_left; · (intro w h; (try dsimp only at h); go_simp; (try with_reducible rfl))
      (try simp only [Act.put, z1, z2, z3, z4, z5, z6])
      refine tkq (i := 3) (v := ?_) rfl (Or.inl ⟨by rfl, ?_⟩) hHeld ?_; rotate_left; · (intro w h; (try dsimp only at h); go_simp; (try with_reducible rfl))
      (try simp only [Act.put, z1, z2, z3, z4, z5, z6])
      refine tkq (i := 4) (v := ?_) rfl (Or.inl ⟨by rfl, ?_⟩) hHeld ?_; rotate_left; · (intro w h; (try dsimp only at h); go_simp; (try with_reducible rfl))
      (try simp only [Act.put, z1, z2, z3, z4, z5, z6])
      refine tkq (i := 5) (v := ?_) rfl (Or.inl ⟨by rfl, ?_⟩) hHeld ?_; rotate_left; · (intro w h; (try dsimp only at h); go_simp; (try with_reducible rfl))
      (try simp only [Act.put, z1, z2, z3, z4, z5, z6])
      refine wpAnyH_ready (rs := [6]) (by kernel_rfl) (by simp) ?_
      refine AllReadyH.cons rfl (fun K hK => ?_) AllReadyH.nil
      go_simp
      (go_at_call 47; go_split_ands; (with_reducible refine Calls.mono (specSpotOk_any n ((A0, c0), (A1, c1)) ⟨ap, aa, aw⟩ _ ((HR.out.below fb.out).below (by assumption)) HF.out) ?_); rintro e w3 ⟨rfl, b3⟩; rw [HSK.out]; have q3 : Below W0.heap.size W0 w3 := below_more (by assumption) b3; clear b3)
      go_wp2_with fail
      refine hK.out _ _ (HS0.out _ (by assumption)) (fun hHeld => ?_)
      clear hK K
      (try simp only [Act.put, z1, z2, z3, z4, z5, z6])
      refine tkq (i := 7) (v := ?_) rfl (Or.inl ⟨by rfl, ?_⟩) hHeld ?_; rotate_left; · (intro w h; (try dsimp only at h); go_simp; (try with_reducible rfl))
      (try simp only [Act.put, z1, z2, z3, z4, z5, z6])
      refine tkq (i := 8) (v := ?_) rfl (Or.inl ⟨by rfl, ?_⟩) hHeld ?_; rotate_left; · (intro w h; (try dsimp only at h); go_simp; (try with_reducible rfl))
      (try simp only [Act.put, z1, z2, z3, z4, z5, z6])
      refine tkq (i := 9) (v := ?_) rfl (Or.inl ⟨by rfl, ?_⟩) hHeld ?_; rotate_left; · (intro w h; (try dsimp only at h); go_simp; (try with_reducible rfl))
      (try simp only [Act.put, z1, z2, z3, z4, z5, z6])
      refine tkq (i := 10) (v := undef) rfl (Or.inr ⟨by rfl, rfl⟩) hHeld ?_
      (try simp only [Act.put, z1, z2, z3, z4, z5, z6])
      refine tkq (i := 11) (v := undef) rfl (Or.inr ⟨by rfl, rfl⟩) hHeld ?_
      (try simp only [Act.put, z1, z2, z3, z4, z5, z6])
      refine tkq (i := 12) (v := undef) rfl (Or.inr ⟨by rfl, rfl⟩) hHeld ?_
      (try simp only [Act.put, z1, z2, z3, z4, z5, z6])
      refine tkq (i := 13) (v := undef) rfl (Or.inr ⟨by rfl, rfl⟩) hHeld ?_
      (try simp only [Act.put, z1, z2, z3, z4, z5, z6])
      refine tkq (i := 14) (v := ?_) rfl (Or.inl ⟨by rfl, ?_⟩) hHeld ?_; rotate_left; · (intro w h; (try dsimp only at h); go_simp; (try with_reducible rfl))
      (try simp only [Act.put, z1, z2, z3, z4, z5, z6])
      refine tkq (i := 15) (v := ?_) rfl (Or.inl ⟨by rfl, ?_⟩) hHeld ?_; rotate_left; · (intro w h; (try dsimp only at h); go_simp; (try with_reducible rfl))
      (try simp only [Act.put, z1, z2, z3, z4, z5, z6])
      refine tkq (i := 16) (v := undef) rfl (Or.inr ⟨by rfl, rfl⟩) hHeld ?_
      (try simp only [Act.put, z1, z2, z3, z4, z5, z6])
      refine tkq (i := 17) (v := undef) rfl (Or.inr ⟨by rfl, rfl⟩) hHeld ?_
      (try simp only [Act.put, z1, z2, z3, z4, z5, z6])
      refine tkq (i := 18) (v := undef) rfl (Or.inr ⟨by rfl, rfl⟩) hHeld ?_
      (try simp only [Act.put, z1, z2, z3, z4, z5, z6])
      refine tkq (i := 19) (v := undef) rfl (Or.inr ⟨by rfl, rfl⟩) hHeld ?_
      (try simp only [Act.put, z1, z2, z3, z4, z5, z6])
      refine tkq (i := 20) (v := ?_) rfl (Or.inl ⟨by rfl, ?_⟩) hHeld ?_; rotate_left; · (intro w h; (try dsimp only at h); go_simp; (try with_reducible rfl))
      (try simp only [Act.put, z1, z2, z3, z4, z5, z6])
      refine tkq (i := 21) (v := ?_) rfl (Or.inl ⟨by rfl, ?_⟩) hHeld ?_; rotate_left; · (intro w h; (try dsimp only at h); go_simp; (try with_reducible rfl))
      (try simp only [Act.put, z1, z2, z3, z4, z5, z6])
      refine tkq (i := 22) (v := undef) rfl (Or.inr ⟨by rfl, rfl⟩) hHeld ?_
      (try simp only [Act.put, z1, z2, z3, z4, z5, z6])
      refine tkq (i := 23) (v := undef) rfl (Or.inr ⟨by rfl, rfl⟩) hHeld ?_
      (try simp only [Act.put, z1, z2, z3, z4, z5, z6])
      refine tkq (i := 24) (v := undef) rfl (Or.inr ⟨by rfl, rfl⟩) hHeld ?_
      (try simp only [Act.put, z1, z2, z3, z4, z5, z6])
      refine tkq (i := 25) (v := undef) rfl (Or.inr ⟨by rfl, rfl⟩) hHeld ?_
      (try simp only [Act.put, z1, z2, z3, z4, z5, z6])
      refine tkq (i := 26) (v := ?_) rfl (Or.inl ⟨by rfl, ?_⟩) hHeld ?_; rotate_left; · (intro w h; (try dsimp only at h); go_simp; (try with_reducible rfl))
      (try simp only [Act.put, z1, z2, z3, z4, z5, z6])
      refine tkq (i := 27) (v := ?_) rfl (Or.inl ⟨by rfl, ?_⟩) hHeld ?_; rotate_left; · (intro w h; (try dsimp only at h); go_simp; (try with_reducible rfl))
      (try simp only [Act.put, z1, z2, z3, z4, z5, z6])
      refine tkq (i := 28) (v := undef) rfl (Or.inr ⟨by rfl, rfl⟩) hHeld ?_
      (try simp only [Act.put, z1, z2, z3, z4, z5, z6])
      refine tkq (i := 29) (v := undef) rfl (Or.inr ⟨by rfl, rfl⟩) hHeld ?_
      (try simp only [Act.put, z1, z2, z3, z4, z5, z6])
      refine tkq (i := 30) (v := undef) rfl (Or.inr ⟨by rfl, rfl⟩) hHeld ?_
      (try simp only [Act.put, z1, z2, z3, z4, z5, z6])
      refine tkq (i := 31) (v := undef) rfl (Or.inr ⟨by rfl, rfl⟩) hHeld ?_
      (try simp only [Act.put, z1, z2, z3, z4, z5, z6])
      refine tkq (i := 32) (v := undef) rfl (Or.inr ⟨by rfl, rfl⟩) hHeld ?_
      (try simp only [Act.put, z1, z2, z3, z4, z5, z6])
      refine tkq (i := 33) (v := undef) rfl (Or.inr ⟨by rfl, rfl⟩) hHeld ?_
      (try simp only [Act.put, z1, z2, z3, z4, z5, z6])
      refine tkq (i := 34) (v := undef) rfl (Or.inr ⟨by rfl, rfl⟩) hHeld ?_
      (try simp only [Act.put, z1, z2, z3, z4, z5, z6])
      refine tkq (i := 35) (v := ?_) rfl (Or.inl ⟨by rfl, ?_⟩) hHeld ?_; rotate_left; · (intro w h; (try dsimp only at h); go_simp; (try with_reducible rfl))
      (try simp only [Act.put, z1, z2, z3, z4, z5, z6])
      refine wpAnyH_done (by kernel_rfl) ?_ _
      go_wp2_with fail
      go_ret
      exact ⟨_, rfl, by rw [HV.out]; exact Kd.R_nil .., (by first | (with_reducible exact below_more fb.out (by assumption)) | exact below_drew fb.out)⟩
    | true =>
      have HSK := Aside0.mk hg
      have hg2 := hg
      unfold spotOkB at hg2
      simp only [Bool.and_eq_true] at hg2
      have HGD := Aside0.mk hg2.1
      have HG := Aside0.mk (Good.of hg2.1)
      have HSP := Aside0.mk hg2.2
      clear hg hg2
      by_cases hl0 : l.length = 0
      · have HV := Aside0.mk (str_nil (n := n) (p := ⟨true, far, l, pls⟩) (a := ⟨ap, aa, aw⟩) hl0)
        have hl0b : ((l.length : Int) == 0) = true := by simpa using hl0
        have hl0i : (l.length : Int) = 0 := by omega
        clear hl0
        have HS0 : Aside0 (∀ W, Below W0.heap.size W0 W → (Below W0.heap.size W0 W ∧ W.cell? ⟨w.heap.size, 0, none⟩ = some (.slice A0 n.pieces.length c0) ∧ W.cell? ⟨w.heap.size, 1, none⟩ = some (.slice A1 n.joints.length c1) ∧ W.cell? ⟨w.heap.size + 1, 0, none⟩ = some (.bool true) ∧ W.cell? ⟨w.heap.size + 1, 1, none⟩ = some (.int .i64 far) ∧ W.cell? ⟨w.heap.size + 1, 2, none⟩ = some (.slice B0 l.length d0) ∧ W.cell? ⟨w.heap.size + 1, 3, none⟩ = some (.slice B1 pls.length d1) ∧ W.cell? ⟨w.heap.size + 1 + 1, 0, none⟩ = some (.int .i64 ap) ∧ W.cell? ⟨w.heap.size + 1 + 1, 1, none⟩ = some (.int .i64 aa) ∧ W.cell? ⟨w.heap.size + 1 + 1, 2, none⟩ = some (.int .i64 aw))) := ⟨fun W hb => ⟨hb, (HN.out.below hb).c 0 _ rfl, (HN.out.below hb).c 1 _ rfl, (HP.out.below hb).c 0 _ rfl, (HP.out.below hb).c 1 _ rfl, (HP.out.below hb).c 2 _ rfl, (HP.out.below hb).c 3 _ rfl, (HS.out.below hb).c 0 _ rfl, (HS.out.below hb).c 1 _ rfl, (HS.out.below hb).c 2 _ rfl⟩⟩
        go_enter Try.func93, Try.ntmps93
        go_wp2_with fail
        rw [← HW.out]
        refine wp_region_held_drew (S := fun W => Below W0.heap.size W0 W ∧ W.cell? ⟨w.heap.size, 0, none⟩ = some (.slice A0 n.pieces.length c0) ∧ W.cell? ⟨w.heap.size, 1, none⟩ = some (.slice A1 n.joints.length c1) ∧ W.cell? ⟨w.heap.size + 1, 0, none⟩ = some (.bool true) ∧ W.cell? ⟨w.heap.size + 1, 1, none⟩ = some (.int .i64 far) ∧ W.cell? ⟨w.heap.size + 1, 2, none⟩ = some (.slice B0 l.length d0) ∧ W.cell? ⟨w.heap.size + 1, 3, none⟩ = some (.slice B1 pls.length d1) ∧ W.cell? ⟨w.heap.size + 1 + 1, 0, none⟩ = some (.int .i64 ap) ∧ W.cell? ⟨w.heap.size + 1 + 1, 1, none⟩ = some (.int .i64 aa) ∧ W.cell? ⟨w.heap.size + 1 + 1, 2, none⟩ = some (.int .i64 aw)) (by kernel_rfl) ?_ (fun hHeld => ?_)
        · exact HS0.out _ (Below.drew (Below.refl _ _))
        refine tkq (i := 0) (v := ?_) rfl (Or.inl ⟨by rfl, ?_⟩) hHeld ?_; rotate_left; · (intro w h; (try dsimp only at h); go_simp; (try with_reducible rfl))
        (try simp only [Act.put, z1, z2, z3, z4, z5, z6])
        refine tkq (i := 1) (v := ?_) rfl (Or.inl ⟨by rfl, ?_⟩) hHeld ?_; rotate_left; · (intro w h; (try dsimp only at h); go_simp; (try with_reducible rfl))
        (try simp only [Act.put, z1, z2, z3, z4, z5, z6])
        refine tkq (i := 2) (v := ?_) rfl (Or.inl ⟨by rfl, ?_⟩) hHeld ?_; rotate_left; · (intro w h; (try dsimp only at h); go_simp; (try with_reducible rfl))
        (try simp only [Act.put, z1, z2, z3, z4, z5, z6])
        refine tkq (i := 3) (v := ?_) rfl (Or.inl ⟨by rfl, ?_⟩) hHeld ?_; rotate_left; · (intro w h; (try dsimp only at h); go_simp; (try with_reducible rfl))
        (try simp only [Act.put, z1, z2, z3, z4, z5, z6])
        refine tkq (i := 4) (v := ?_) rfl (Or.inl ⟨by rfl, ?_⟩) hHeld ?_; rotate_left; · (intro w h; (try dsimp only at h); go_simp; (try with_reducible rfl))
        (try simp only [Act.put, z1, z2, z3, z4, z5, z6])
        refine tkq (i := 5) (v := ?_) rfl (Or.inl ⟨by rfl, ?_⟩) hHeld ?_; rotate_left; · (intro w h; (try dsimp only at h); go_simp; (try with_reducible rfl))
        (try simp only [Act.put, z1, z2, z3, z4, z5, z6])
        refine wpAnyH_ready (rs := [6]) (by kernel_rfl) (by simp) ?_
        refine AllReadyH.cons rfl (fun K hK => ?_) AllReadyH.nil
        go_simp
        (go_at_call 47; go_split_ands; (with_reducible refine Calls.mono (specSpotOk_any n ((A0, c0), (A1, c1)) ⟨ap, aa, aw⟩ _ ((HR.out.below fb.out).below (by assumption)) HF.out) ?_); rintro e w3 ⟨rfl, b3⟩; rw [HSK.out]; have q3 : Below W0.heap.size W0 w3 := below_more (by assumption) b3; clear b3)
        go_wp2_with fail
        refine hK.out _ _ (HS0.out _ (by assumption)) (fun hHeld => ?_)
        clear hK K
        (try simp only [Act.put, z1, z2, z3, z4, z5, z6])
        refine tkq (i := 7) (v := ?_) rfl (Or.inl ⟨by rfl, ?_⟩) hHeld ?_; rotate_left; · (intro w h; (try dsimp only at h); go_simp; (try with_reducible rfl))
        (try simp only [Act.put, z1, z2, z3, z4, z5, z6])
        refine tkq (i := 8) (v := ?_) rfl (Or.inl ⟨by rfl, ?_⟩) hHeld ?_; rotate_left; · (intro w h; (try dsimp only at h); go_simp; (try with_reducible rfl))
        (try simp only [Act.put, z1, z2, z3, z4, z5, z6])
        refine tkq (i := 9) (v := ?_) rfl (Or.inl ⟨by rfl, ?_⟩) hHeld ?_; rotate_left; · (intro w h; (try dsimp only at h); go_simp; (try with_reducible rfl))
        (try simp only [Act.put, z1, z2, z3, z4, z5, z6])
        refine tkq (i := 10) (v := ?_) rfl (Or.inl ⟨by rfl, ?_⟩) hHeld ?_; rotate_left; · (intro w h; (try dsimp only at h); go_simp; (try with_reducible rfl))
        (try simp only [Act.put, z1, z2, z3, z4, z5, z6])
        refine tkq (i := 11) (v := ?_) rfl (Or.inl ⟨by rfl, ?_⟩) hHeld ?_; rotate_left; · (intro w h; (try dsimp only at h); go_simp; (try with_reducible rfl))
        (try simp only [Act.put, z1, z2, z3, z4, z5, z6])
        refine tkq (i := 12) (v := ?_) rfl (Or.inl ⟨by rfl, ?_⟩) hHeld ?_; rotate_left; · (intro w h; (try dsimp only at h); go_simp; (try with_reducible rfl))
        (try simp only [Act.put, z1, z2, z3, z4, z5, z6])
        refine tkq (i := 13) (v := ?_) rfl (Or.inl ⟨by rfl, ?_⟩) hHeld ?_; rotate_left; · (intro w h; (try dsimp only at h); go_simp; (try with_reducible rfl))
        (try simp only [Act.put, z1, z2, z3, z4, z5, z6])
        refine tkq (i := 14) (v := ?_) rfl (Or.inl ⟨by rfl, ?_⟩) hHeld ?_; rotate_left; · (intro w h; (try dsimp only at h); go_simp; (try with_reducible rfl))
        (try simp only [Act.put, z1, z2, z3, z4, z5, z6])
        refine tkq (i := 15) (v := ?_) rfl (Or.inl ⟨by rfl, ?_⟩) hHeld ?_; rotate_left; · (intro w h; (try dsimp only at h); go_simp; (try with_reducible rfl))
        (try simp only [Act.put, z1, z2, z3, z4, z5, z6])
        refine tkq (i := 16) (v := undef) rfl (Or.inr ⟨by rfl, rfl⟩) hHeld ?_
        (try simp only [Act.put, z1, z2, z3, z4, z5, z6])
        refine tkq (i := 17) (v := undef) rfl (Or.inr ⟨by rfl, rfl⟩) hHeld ?_
        (try simp only [Act.put, z1, z2, z3, z4, z5, z6])
        refine tkq (i := 18) (v := undef) rfl (Or.inr ⟨by rfl, rfl⟩) hHeld ?_
        (try simp only [Act.put, z1, z2, z3, z4, z5, z6])
        refine tkq (i := 19) (v := undef) rfl (Or.inr ⟨by rfl, rfl⟩) hHeld ?_
        (try simp only [Act.put, z1, z2, z3, z4, z5, z6])
        refine tkq (i := 20) (v := ?_) rfl (Or.inl ⟨by rfl, ?_⟩) hHeld ?_; rotate_left; · (intro w h; (try dsimp only at h); go_simp; (try with_reducible rfl))
        (try simp only [Act.put, z1, z2, z3, z4, z5, z6])
        refine tkq (i := 21) (v := ?_) rfl (Or.inl ⟨by rfl, ?_⟩) hHeld ?_; rotate_left; · (intro w h; (try dsimp only at h); go_simp; (try with_reducible rfl))
        (try simp only [Act.put, z1, z2, z3, z4, z5, z6])
        refine tkq (i := 22) (v := undef) rfl (Or.inr ⟨by rfl, rfl⟩) hHeld ?_
        (try simp only [Act.put, z1, z2, z3, z4, z5, z6])
        refine tkq (i := 23) (v := undef) rfl (Or.inr ⟨by rfl, rfl⟩) hHeld ?_
        (try simp only [Act.put, z1, z2, z3, z4, z5, z6])
        refine tkq (i := 24) (v := undef) rfl (Or.inr ⟨by rfl, rfl⟩) hHeld ?_
        (try simp only [Act.put, z1, z2, z3, z4, z5, z6])
        refine tkq (i := 25) (v := undef) rfl (Or.inr ⟨by rfl, rfl⟩) hHeld ?_
        (try simp only [Act.put, z1, z2, z3, z4, z5, z6])
        refine tkq (i := 26) (v := ?_) rfl (Or.inl ⟨by rfl, ?_⟩) hHeld ?_; rotate_left; · (intro w h; (try dsimp only at h); go_simp; (try with_reducible rfl))
        (try simp only [Act.put, z1, z2, z3, z4, z5, z6])
        refine tkq (i := 27) (v := ?_) rfl (Or.inl ⟨by rfl, ?_⟩) hHeld ?_; rotate_left; · (intro w h; (try dsimp only at h); go_simp; (try with_reducible rfl))
        (try simp only [Act.put, z1, z2, z3, z4, z5, z6])
        refine tkq (i := 28) (v := undef) rfl (Or.inr ⟨by rfl, rfl⟩) hHeld ?_
        (try simp only [Act.put, z1, z2, z3, z4, z5, z6])
        refine tkq (i := 29) (v := undef) rfl (Or.inr ⟨by rfl, rfl⟩) hHeld ?_
        (try simp only [Act.put, z1, z2, z3, z4, z5, z6])
        refine tkq (i := 30) (v := undef) rfl (Or.inr ⟨by rfl, rfl⟩) hHeld ?_
        (try simp only [Act.put, z1, z2, z3, z4, z5, z6])
        refine tkq (i := 31) (v := undef) rfl (Or.inr ⟨by rfl, rfl⟩) hHeld ?_
        (try simp only [Act.put, z1, z2, z3, z4, z5, z6])
        refine tkq (i := 32) (v := undef) rfl (Or.inr ⟨by rfl, rfl⟩) hHeld ?_
        (try simp only [Act.put, z1, z2, z3, z4, z5, z6])
        refine tkq (i := 33) (v := undef) rfl (Or.inr ⟨by rfl, rfl⟩) hHeld ?_
        (try simp only [Act.put, z1, z2, z3, z4, z5, z6])
        refine tkq (i := 34) (v := undef) rfl (Or.inr ⟨by rfl, rfl⟩) hHeld ?_
        (try simp only [Act.put, z1, z2, z3, z4, z5, z6])
        refine tkq (i := 35) (v := ?_) rfl (Or.inl ⟨by rfl, ?_⟩) hHeld ?_; rotate_left; · (intro w h; (try dsimp only at h); go_simp; (try with_reducible rfl))
        (try simp only [Act.put, z1, z2, z3, z4, z5, z6])
        refine wpAnyH_done (by kernel_rfl) ?_ _
        go_wp2_with fail
        go_ret
        exact ⟨_, rfl, by rw [HV.out]; exact Kd.R_nil .., (by first | (with_reducible exact below_more fb.out (by assumption)) | exact below_drew fb.out)⟩
      · have hl0b : ((l.length : Int) == 0) = false := by simpa using hl0
        have hlp : 0 < l.length := by omega
        have hlp' : (0 : Int) < (l.length : Int) := by omega
        by_cases hlo : (400 : Int) < (l.length : Int)
        · have HV := Aside0.mk (str_long (n := n) (p := ⟨true, far, l, pls⟩) (a := ⟨ap, aa, aw⟩) (by simp only; omega))
          clear hl0
          have HS0 : Aside0 (∀ W, Below W0.heap.size W0 W → (Below W0.heap.size W0 W ∧ W.cell? ⟨w.heap.size, 0, none⟩ = some (.slice A0 n.pieces.length c0) ∧ W.cell? ⟨w.heap.size, 1, none⟩ = some (.slice A1 n.joints.length c1) ∧ W.cell? ⟨w.heap.size + 1, 0, none⟩ = some (.bool true) ∧ W.cell? ⟨w.heap.size + 1, 1, none⟩ = some (.int .i64 far) ∧ W.cell? ⟨w.heap.size + 1, 2, none⟩ = some (.slice B0 l.length d0) ∧ W.cell? ⟨w.heap.size + 1, 3, none⟩ = some (.slice B1 pls.length d1) ∧ W.cell? ⟨w.heap.size + 1 + 1, 0, none⟩ = some (.int .i64 ap) ∧ W.cell? ⟨w.heap.size + 1 + 1, 1, none⟩ = some (.int .i64 aa) ∧ W.cell? ⟨w.heap.size + 1 + 1, 2, none⟩ = some (.int .i64 aw))) := ⟨fun W hb => ⟨hb, (HN.out.below hb).c 0 _ rfl, (HN.out.below hb).c 1 _ rfl, (HP.out.below hb).c 0 _ rfl, (HP.out.below hb).c 1 _ rfl, (HP.out.below hb).c 2 _ rfl, (HP.out.below hb).c 3 _ rfl, (HS.out.below hb).c 0 _ rfl, (HS.out.below hb).c 1 _ rfl, (HS.out.below hb).c 2 _ rfl⟩⟩
          go_enter Try.func93, Try.ntmps93
          go_wp2_with fail
          rw [← HW.out]
          refine wp_region_held_drew (S := fun W => Below W0.heap.size W0 W ∧ W.cell? ⟨w.heap.size, 0, none⟩ = some (.slice A0 n.pieces.length c0) ∧ W.cell? ⟨w.heap.size, 1, none⟩ = some (.slice A1 n.joints.length c1) ∧ W.cell? ⟨w.heap.size + 1, 0, none⟩ = some (.bool true) ∧ W.cell? ⟨w.heap.size + 1, 1, none⟩ = some (.int .i64 far) ∧ W.cell? ⟨w.heap.size + 1, 2, none⟩ = some (.slice B0 l.length d0) ∧ W.cell? ⟨w.heap.size + 1, 3, none⟩ = some (.slice B1 pls.length d1) ∧ W.cell? ⟨w.heap.size + 1 + 1, 0, none⟩ = some (.int .i64 ap) ∧ W.cell? ⟨w.heap.size + 1 + 1, 1, none⟩ = some (.int .i64 aa) ∧ W.cell? ⟨w.heap.size + 1 + 1, 2, none⟩ = some (.int .i64 aw)) (by kernel_rfl) ?_ (fun hHeld => ?_)
          · exact HS0.out _ (Below.drew (Below.refl _ _))
          refine tkq (i := 0) (v := ?_) rfl (Or.inl ⟨by rfl, ?_⟩) hHeld ?_; rotate_left; · (intro w h; (try dsimp only at h); go_simp; (try with_reducible rfl))
          (try simp only [Act.put, z1, z2, z3, z4, z5, z6])
          refine tkq (i := 1) (v := ?_) rfl (Or.inl ⟨by rfl, ?_⟩) hHeld ?_; rotate_left; · (intro w h; (try dsimp only at h); go_simp; (try with_reducible rfl))
          (try simp only [Act.put, z1, z2, z3, z4, z5, z6])
          refine tkq (i := 2) (v := ?_) rfl (Or.inl ⟨by rfl, ?_⟩) hHeld ?_; rotate_left; · (intro w h; (try dsimp only at h); go_simp; (try with_reducible rfl))
          (try simp only [Act.put, z1, z2, z3, z4, z5, z6])
          refine tkq (i := 3) (v := ?_) rfl (Or.inl ⟨by rfl, ?_⟩) hHeld ?_; rotate_left; · (intro w h; (try dsimp only at h); go_simp; (try with_reducible rfl))
          (try simp only [Act.put, z1, z2, z3, z4, z5, z6])
          refine tkq (i := 4) (v := ?_) rfl (Or.inl ⟨by rfl, ?_⟩) hHeld ?_; rotate_left; · (intro w h; (try dsimp only at h); go_simp; (try with_reducible rfl))
          (try simp only [Act.put, z1, z2, z3, z4, z5, z6])
          refine tkq (i := 5) (v := ?_) rfl (Or.inl ⟨by rfl, ?_⟩) hHeld ?_; rotate_left; · (intro w h; (try dsimp only at h); go_simp; (try with_reducible rfl))
          (try simp only [Act.put, z1, z2, z3, z4, z5, z6])
          refine wpAnyH_ready (rs := [6]) (by kernel_rfl) (by simp) ?_
          refine AllReadyH.cons rfl (fun K hK => ?_) AllReadyH.nil
          go_simp
          (go_at_call 47; go_split_ands; (with_reducible refine Calls.mono (specSpotOk_any n ((A0, c0), (A1, c1)) ⟨ap, aa, aw⟩ _ ((HR.out.below fb.out).below (by assumption)) HF.out) ?_); rintro e w3 ⟨rfl, b3⟩; rw [HSK.out]; have q3 : Below W0.heap.size W0 w3 := below_more (by assumption) b3; clear b3)
          go_wp2_with fail
          refine hK.out _ _ (HS0.out _ (by assumption)) (fun hHeld => ?_)
          clear hK K
          (try simp only [Act.put, z1, z2, z3, z4, z5, z6])
          refine tkq (i := 7) (v := ?_) rfl (Or.inl ⟨by rfl, ?_⟩) hHeld ?_; rotate_left; · (intro w h; (try dsimp only at h); go_simp; (try with_reducible rfl))
          (try simp only [Act.put, z1, z2, z3, z4, z5, z6])
          refine tkq (i := 8) (v := ?_) rfl (Or.inl ⟨by rfl, ?_⟩) hHeld ?_; rotate_left; · (intro w h; (try dsimp only at h); go_simp; (try with_reducible rfl))
          (try simp only [Act.put, z1, z2, z3, z4, z5, z6])
          refine tkq (i := 9) (v := ?_) rfl (Or.inl ⟨by rfl, ?_⟩) hHeld ?_; rotate_left; · (intro w h; (try dsimp only at h); go_simp; (try with_reducible rfl))
          (try simp only [Act.put, z1, z2, z3, z4, z5, z6])
          refine tkq (i := 10) (v := ?_) rfl (Or.inl ⟨by rfl, ?_⟩) hHeld ?_; rotate_left; · (intro w h; (try dsimp only at h); go_simp; (try with_reducible rfl))
          (try simp only [Act.put, z1, z2, z3, z4, z5, z6])
          refine tkq (i := 11) (v := ?_) rfl (Or.inl ⟨by rfl, ?_⟩) hHeld ?_; rotate_left; · (intro w h; (try dsimp only at h); go_simp; (try with_reducible rfl))
          (try simp only [Act.put, z1, z2, z3, z4, z5, z6])
          refine tkq (i := 12) (v := ?_) rfl (Or.inl ⟨by rfl, ?_⟩) hHeld ?_; rotate_left; · (intro w h; (try dsimp only at h); go_simp; (try with_reducible rfl))
          (try simp only [Act.put, z1, z2, z3, z4, z5, z6])
          refine tkq (i := 13) (v := .bool false) rfl (Or.inl ⟨by rfl, ?_⟩) hHeld ?_
          · (intro w hSw; (try dsimp only at hSw); go_simp; (try simp); (try omega))
          (try simp only [Act.put, z1, z2, z3, z4, z5, z6])
          refine tkq (i := 14) (v := ?_) rfl (Or.inl ⟨by rfl, ?_⟩) hHeld ?_; rotate_left; · (intro w h; (try dsimp only at h); go_simp; (try with_reducible rfl))
          (try simp only [Act.put, z1, z2, z3, z4, z5, z6])
          refine tkq (i := 15) (v := ?_) rfl (Or.inl ⟨by rfl, ?_⟩) hHeld ?_; rotate_left; · (intro w h; (try dsimp only at h); go_simp; (try with_reducible rfl))
          (try simp only [Act.put, z1, z2, z3, z4, z5, z6])
          refine tkq (i := 16) (v := ?_) rfl (Or.inl ⟨by rfl, ?_⟩) hHeld ?_; rotate_left; · (intro w h; (try dsimp only at h); go_simp; (try with_reducible rfl))
          (try simp only [Act.put, z1, z2, z3, z4, z5, z6])
          refine tkq (i := 17) (v := ?_) rfl (Or.inl ⟨by rfl, ?_⟩) hHeld ?_; rotate_left; · (intro w h; (try dsimp only at h); go_simp; (try with_reducible rfl))
          (try simp only [Act.put, z1, z2, z3, z4, z5, z6])
          refine tkq (i := 18) (v := ?_) rfl (Or.inl ⟨by rfl, ?_⟩) hHeld ?_; rotate_left; · (intro w h; (try dsimp only at h); go_simp; (try with_reducible rfl))
          (try simp only [Act.put, z1, z2, z3, z4, z5, z6])
          refine tkq (i := 19) (v := ?_) rfl (Or.inl ⟨by rfl, ?_⟩) hHeld ?_; rotate_left; · (intro w h; (try dsimp only at h); go_simp; (try with_reducible rfl))
          (try simp only [Act.put, z1, z2, z3, z4, z5, z6])
          refine tkq (i := 20) (v := ?_) rfl (Or.inl ⟨by rfl, ?_⟩) hHeld ?_; rotate_left; · (intro w h; (try dsimp only at h); go_simp; (try with_reducible rfl))
          (try simp only [Act.put, z1, z2, z3, z4, z5, z6])
          refine tkq (i := 21) (v := ?_) rfl (Or.inl ⟨by rfl, ?_⟩) hHeld ?_; rotate_left; · (intro w h; (try dsimp only at h); go_simp; (try with_reducible rfl))
          (try simp only [Act.put, z1, z2, z3, z4, z5, z6])
          refine tkq (i := 22) (v := undef) rfl (Or.inr ⟨by rfl, rfl⟩) hHeld ?_
          (try simp only [Act.put, z1, z2, z3, z4, z5, z6])
          refine tkq (i := 23) (v := undef) rfl (Or.inr ⟨by rfl, rfl⟩) hHeld ?_
          (try simp only [Act.put, z1, z2, z3, z4, z5, z6])
          refine tkq (i := 24) (v := undef) rfl (Or.inr ⟨by rfl, rfl⟩) hHeld ?_
          (try simp only [Act.put, z1, z2, z3, z4, z5, z6])
          refine tkq (i := 25) (v := undef) rfl (Or.inr ⟨by rfl, rfl⟩) hHeld ?_
          (try simp only [Act.put, z1, z2, z3, z4, z5, z6])
          refine tkq (i := 26) (v := ?_) rfl (Or.inl ⟨by rfl, ?_⟩) hHeld ?_; rotate_left; · (intro w h; (try dsimp only at h); go_simp; (try with_reducible rfl))
          (try simp only [Act.put, z1, z2, z3, z4, z5, z6])
          refine tkq (i := 27) (v := ?_) rfl (Or.inl ⟨by rfl, ?_⟩) hHeld ?_; rotate_left; · (intro w h; (try dsimp only at h); go_simp; (try with_reducible rfl))
          (try simp only [Act.put, z1, z2, z3, z4, z5, z6])
          refine tkq (i := 28) (v := undef) rfl (Or.inr ⟨by rfl, rfl⟩) hHeld ?_
          (try simp only [Act.put, z1, z2, z3, z4, z5, z6])
          refine tkq (i := 29) (v := undef) rfl (Or.inr ⟨by rfl, rfl⟩) hHeld ?_
          (try simp only [Act.put, z1, z2, z3, z4, z5, z6])
          refine tkq (i := 30) (v := undef) rfl (Or.inr ⟨by rfl, rfl⟩) hHeld ?_
          (try simp only [Act.put, z1, z2, z3, z4, z5, z6])
          refine tkq (i := 31) (v := undef) rfl (Or.inr ⟨by rfl, rfl⟩) hHeld ?_
          (try simp only [Act.put, z1, z2, z3, z4, z5, z6])
          refine tkq (i := 32) (v := undef) rfl (Or.inr ⟨by rfl, rfl⟩) hHeld ?_
          (try simp only [Act.put, z1, z2, z3, z4, z5, z6])
          refine tkq (i := 33) (v := undef) rfl (Or.inr ⟨by rfl, rfl⟩) hHeld ?_
          (try simp only [Act.put, z1, z2, z3, z4, z5, z6])
          refine tkq (i := 34) (v := undef) rfl (Or.inr ⟨by rfl, rfl⟩) hHeld ?_
          (try simp only [Act.put, z1, z2, z3, z4, z5, z6])
          refine tkq (i := 35) (v := ?_) rfl (Or.inl ⟨by rfl, ?_⟩) hHeld ?_; rotate_left; · (intro w h; (try dsimp only at h); go_simp; (try with_reducible rfl))
          (try simp only [Act.put, z1, z2, z3, z4, z5, z6])
          refine wpAnyH_done (by kernel_rfl) ?_ _
          go_wp2_with fail
          go_ret
          exact ⟨_, rfl, by rw [HV.out]; exact Kd.R_nil .., (by first | (with_reducible exact below_more fb.out (by assumption)) | exact below_drew fb.out)⟩
        · cases hin : inB far 0 1000000 with
          | false =>
            have HIN := Aside0.mk hin
            have HV := Aside0.mk (str_far (n := n) (p := ⟨true, far, l, pls⟩) (a := ⟨ap, aa, aw⟩) (fun h => by rw [inB_true.2 h] at hin; cases hin))
            clear hl0 hin
            have HS0 : Aside0 (∀ W, Below W0.heap.size W0 W → (Below W0.heap.size W0 W ∧ W.cell? ⟨w.heap.size, 0, none⟩ = some (.slice A0 n.pieces.length c0) ∧ W.cell? ⟨w.heap.size, 1, none⟩ = some (.slice A1 n.joints.length c1) ∧ W.cell? ⟨w.heap.size + 1, 0, none⟩ = some (.bool true) ∧ W.cell? ⟨w.heap.size + 1, 1, none⟩ = some (.int .i64 far) ∧ W.cell? ⟨w.heap.size + 1, 2, none⟩ = some (.slice B0 l.length d0) ∧ W.cell? ⟨w.heap.size + 1, 3, none⟩ = some (.slice B1 pls.length d1) ∧ W.cell? ⟨w.heap.size + 1 + 1, 0, none⟩ = some (.int .i64 ap) ∧ W.cell? ⟨w.heap.size + 1 + 1, 1, none⟩ = some (.int .i64 aa) ∧ W.cell? ⟨w.heap.size + 1 + 1, 2, none⟩ = some (.int .i64 aw))) := ⟨fun W hb => ⟨hb, (HN.out.below hb).c 0 _ rfl, (HN.out.below hb).c 1 _ rfl, (HP.out.below hb).c 0 _ rfl, (HP.out.below hb).c 1 _ rfl, (HP.out.below hb).c 2 _ rfl, (HP.out.below hb).c 3 _ rfl, (HS.out.below hb).c 0 _ rfl, (HS.out.below hb).c 1 _ rfl, (HS.out.below hb).c 2 _ rfl⟩⟩
            go_enter Try.func93, Try.ntmps93
            go_wp2_with fail
            rw [← HW.out]
            refine wp_region_held_drew (S := fun W => Below W0.heap.size W0 W ∧ W.cell? ⟨w.heap.size, 0, none⟩ = some (.slice A0 n.pieces.length c0) ∧ W.cell? ⟨w.heap.size, 1, none⟩ = some (.slice A1 n.joints.length c1) ∧ W.cell? ⟨w.heap.size + 1, 0, none⟩ = some (.bool true) ∧ W.cell? ⟨w.heap.size + 1, 1, none⟩ = some (.int .i64 far) ∧ W.cell? ⟨w.heap.size + 1, 2, none⟩ = some (.slice B0 l.length d0) ∧ W.cell? ⟨w.heap.size + 1, 3, none⟩ = some (.slice B1 pls.length d1) ∧ W.cell? ⟨w.heap.size + 1 + 1, 0, none⟩ = some (.int .i64 ap) ∧ W.cell? ⟨w.heap.size + 1 + 1, 1, none⟩ = some (.int .i64 aa) ∧ W.cell? ⟨w.heap.size + 1 + 1, 2, none⟩ = some (.int .i64 aw)) (by kernel_rfl) ?_ (fun hHeld => ?_)
            · exact HS0.out _ (Below.drew (Below.refl _ _))
            refine tkq (i := 0) (v := ?_) rfl (Or.inl ⟨by rfl, ?_⟩) hHeld ?_; rotate_left; · (intro w h; (try dsimp only at h); go_simp; (try with_reducible rfl))
            (try simp only [Act.put, z1, z2, z3, z4, z5, z6])
            refine tkq (i := 1) (v := ?_) rfl (Or.inl ⟨by rfl, ?_⟩) hHeld ?_; rotate_left; · (intro w h; (try dsimp only at h); go_simp; (try with_reducible rfl))
            (try simp only [Act.put, z1, z2, z3, z4, z5, z6])
            refine tkq (i := 2) (v := ?_) rfl (Or.inl ⟨by rfl, ?_⟩) hHeld ?_; rotate_left; · (intro w h; (try dsimp only at h); go_simp; (try with_reducible rfl))
            (try simp only [Act.put, z1, z2, z3, z4, z5, z6])
            refine tkq (i := 3) (v := ?_) rfl (Or.inl ⟨by rfl, ?_⟩) hHeld ?_; rotate_left; · (intro w h; (try dsimp only at h); go_simp; (try with_reducible rfl))
            (try simp only [Act.put, z1, z2, z3, z4, z5, z6])
            refine tkq (i := 4) (v := ?_) rfl (Or.inl ⟨by rfl, ?_⟩) hHeld ?_; rotate_left; · (intro w h; (try dsimp only at h); go_simp; (try with_reducible rfl))
            (try simp only [Act.put, z1, z2, z3, z4, z5, z6])
            refine tkq (i := 5) (v := ?_) rfl (Or.inl ⟨by rfl, ?_⟩) hHeld ?_; rotate_left; · (intro w h; (try dsimp only at h); go_simp; (try with_reducible rfl))
            (try simp only [Act.put, z1, z2, z3, z4, z5, z6])
            refine wpAnyH_ready (rs := [6]) (by kernel_rfl) (by simp) ?_
            refine AllReadyH.cons rfl (fun K hK => ?_) AllReadyH.nil
            go_simp
            (go_at_call 47; go_split_ands; (with_reducible refine Calls.mono (specSpotOk_any n ((A0, c0), (A1, c1)) ⟨ap, aa, aw⟩ _ ((HR.out.below fb.out).below (by assumption)) HF.out) ?_); rintro e w3 ⟨rfl, b3⟩; rw [HSK.out]; have q3 : Below W0.heap.size W0 w3 := below_more (by assumption) b3; clear b3)
            go_wp2_with fail
            refine hK.out _ _ (HS0.out _ (by assumption)) (fun hHeld => ?_)
            clear hK K
            (try simp only [Act.put, z1, z2, z3, z4, z5, z6])
            refine tkq (i := 7) (v := ?_) rfl (Or.inl ⟨by rfl, ?_⟩) hHeld ?_; rotate_left; · (intro w h; (try dsimp only at h); go_simp; (try with_reducible rfl))
            (try simp only [Act.put, z1, z2, z3, z4, z5, z6])
            refine tkq (i := 8) (v := ?_) rfl (Or.inl ⟨by rfl, ?_⟩) hHeld ?_; rotate_left; · (intro w h; (try dsimp only at h); go_simp; (try with_reducible rfl))
            (try simp only [Act.put, z1, z2, z3, z4, z5, z6])
            refine tkq (i := 9) (v := ?_) rfl (Or.inl ⟨by rfl, ?_⟩) hHeld ?_; rotate_left; · (intro w h; (try dsimp only at h); go_simp; (try with_reducible rfl))
            (try simp only [Act.put, z1, z2, z3, z4, z5, z6])
            refine tkq (i := 10) (v := ?_) rfl (Or.inl ⟨by rfl, ?_⟩) hHeld ?_; rotate_left; · (intro w h; (try dsimp only at h); go_simp; (try with_reducible rfl))
            (try simp only [Act.put, z1, z2, z3, z4, z5, z6])
            refine tkq (i := 11) (v := ?_) rfl (Or.inl ⟨by rfl, ?_⟩) hHeld ?_; rotate_left; · (intro w h; (try dsimp only at h); go_simp; (try with_reducible rfl))
            (try simp only [Act.put, z1, z2, z3, z4, z5, z6])
            refine tkq (i := 12) (v := ?_) rfl (Or.inl ⟨by rfl, ?_⟩) hHeld ?_; rotate_left; · (intro w h; (try dsimp only at h); go_simp; (try with_reducible rfl))
            (try simp only [Act.put, z1, z2, z3, z4, z5, z6])
            refine tkq (i := 13) (v := .bool false) rfl (Or.inl ⟨by rfl, ?_⟩) hHeld ?_
            · (intro w hSw; (try dsimp only at hSw); go_simp; (try simp); (try omega))
            (try simp only [Act.put, z1, z2, z3, z4, z5, z6])
            refine tkq (i := 14) (v := ?_) rfl (Or.inl ⟨by rfl, ?_⟩) hHeld ?_; rotate_left; · (intro w h; (try dsimp only at h); go_simp; (try with_reducible rfl))
            (try simp only [Act.put, z1, z2, z3, z4, z5, z6])
            refine tkq (i := 15) (v := ?_) rfl (Or.inl ⟨by rfl, ?_⟩) hHeld ?_; rotate_left; · (intro w h; (try dsimp only at h); go_simp; (try with_reducible rfl))
            (try simp only [Act.put, z1, z2, z3, z4, z5, z6])
            refine tkq (i := 16) (v := ?_) rfl (Or.inl ⟨by rfl, ?_⟩) hHeld ?_; rotate_left; · (intro w h; (try dsimp only at h); go_simp; (try with_reducible rfl))
            (try simp only [Act.put, z1, z2, z3, z4, z5, z6])
            refine tkq (i := 17) (v := ?_) rfl (Or.inl ⟨by rfl, ?_⟩) hHeld ?_; rotate_left; · (intro w h; (try dsimp only at h); go_simp; (try with_reducible rfl))
            (try simp only [Act.put, z1, z2, z3, z4, z5, z6])
            refine tkq (i := 18) (v := ?_) rfl (Or.inl ⟨by rfl, ?_⟩) hHeld ?_; rotate_left; · (intro w h; (try dsimp only at h); go_simp; (try with_reducible rfl))
            (try simp only [Act.put, z1, z2, z3, z4, z5, z6])
            refine tkq (i := 19) (v := .bool false) rfl (Or.inl ⟨by rfl, ?_⟩) hHeld ?_
            · (intro w hSw; (try dsimp only at hSw); go_simp; (try simp); (try omega))
            (try simp only [Act.put, z1, z2, z3, z4, z5, z6])
            refine tkq (i := 20) (v := ?_) rfl (Or.inl ⟨by rfl, ?_⟩) hHeld ?_; rotate_left; · (intro w h; (try dsimp only at h); go_simp; (try with_reducible rfl))
            (try simp only [Act.put, z1, z2, z3, z4, z5, z6])
            refine tkq (i := 21) (v := ?_) rfl (Or.inl ⟨by rfl, ?_⟩) hHeld ?_; rotate_left; · (intro w h; (try dsimp only at h); go_simp; (try with_reducible rfl))
            (try simp only [Act.put, z1, z2, z3, z4, z5, z6])
            refine tkq (i := 22) (v := ?_) rfl (Or.inl ⟨by rfl, ?_⟩) hHeld ?_; rotate_left; · (intro w h; (try dsimp only at h); go_simp; (try with_reducible rfl))
            (try simp only [Act.put, z1, z2, z3, z4, z5, z6])
            refine tkq (i := 23) (v := ?_) rfl (Or.inl ⟨by rfl, ?_⟩) hHeld ?_; rotate_left; · (intro w h; (try dsimp only at h); go_simp; (try with_reducible rfl))
            (try simp only [Act.put, z1, z2, z3, z4, z5, z6])
            refine wpAnyH_ready (rs := [24]) (by kernel_rfl) (by simp) ?_
            refine AllReadyH.cons rfl (fun K hK => ?_) AllReadyH.nil
            go_simp
            (go_at_call 119; go_split_ands; (with_reducible refine Calls.mono (l1in_is far 0 1000000 _ HIN.out _) ?_); rintro e w4 ⟨rfl, rfl⟩; have q4 := q3)
            go_wp2_with fail
            refine hK.out _ _ (HS0.out _ (by assumption)) (fun hHeld => ?_)
            clear hK K
            (try simp only [Act.put, z1, z2, z3, z4, z5, z6])
            refine tkq (i := 25) (v := ?_) rfl (Or.inl ⟨by rfl, ?_⟩) hHeld ?_; rotate_left; · (intro w h; (try dsimp only at h); go_simp; (try with_reducible rfl))
            (try simp only [Act.put, z1, z2, z3, z4, z5, z6])
            refine tkq (i := 26) (v := ?_) rfl (Or.inl ⟨by rfl, ?_⟩) hHeld ?_; rotate_left; · (intro w h; (try dsimp only at h); go_simp; (try with_reducible rfl))
            (try simp only [Act.put, z1, z2, z3, z4, z5, z6])
            refine tkq (i := 27) (v := ?_) rfl (Or.inl ⟨by rfl, ?_⟩) hHeld ?_; rotate_left; · (intro w h; (try dsimp only at h); go_simp; (try with_reducible rfl))
            (try simp only [Act.put, z1, z2, z3, z4, z5, z6])
            refine tkq (i := 28) (v := undef) rfl (Or.inr ⟨by rfl, rfl⟩) hHeld ?_
            (try simp only [Act.put, z1, z2, z3, z4, z5, z6])
            refine tkq (i := 29) (v := undef) rfl (Or.inr ⟨by rfl, rfl⟩) hHeld ?_
            (try simp only [Act.put, z1, z2, z3, z4, z5, z6])
            refine tkq (i := 30) (v := undef) rfl (Or.inr ⟨by rfl, rfl⟩) hHeld ?_
            (try simp only [Act.put, z1, z2, z3, z4, z5, z6])
            refine tkq (i := 31) (v := undef) rfl (Or.inr ⟨by rfl, rfl⟩) hHeld ?_
            (try simp only [Act.put, z1, z2, z3, z4, z5, z6])
            refine tkq (i := 32) (v := undef) rfl (Or.inr ⟨by rfl, rfl⟩) hHeld ?_
            (try simp only [Act.put, z1, z2, z3, z4, z5, z6])
            refine tkq (i := 33) (v := undef) rfl (Or.inr ⟨by rfl, rfl⟩) hHeld ?_
            (try simp only [Act.put, z1, z2, z3, z4, z5, z6])
            refine tkq (i := 34) (v := undef) rfl (Or.inr ⟨by rfl, rfl⟩) hHeld ?_
            (try simp only [Act.put, z1, z2, z3, z4, z5, z6])
            refine tkq (i := 35) (v := ?_) rfl (Or.inl ⟨by rfl, ?_⟩) hHeld ?_; rotate_left; · (intro w h; (try dsimp only at h); go_simp; (try with_reducible rfl))
            (try simp only [Act.put, z1, z2, z3, z4, z5, z6])
            refine wpAnyH_done (by kernel_rfl) ?_ _
            go_wp2_with fail
            go_ret
            exact ⟨_, rfl, by rw [HV.out]; exact Kd.R_nil .., (by first | (with_reducible exact below_more fb.out (by assumption)) | exact below_drew fb.out)⟩
          | true =>
            have HIN := Aside0.mk hin
            have HFA := Aside0.mk (inB_true.1 hin)
            obtain ⟨adS, eS, y0, y1⟩ := at_Step HC.out 0 hlp
            subst eS
            rw [Nat.zero_mul, show adS.add 0 = adS from rfl] at y0 y1
            have HLP := Aside0.mk hlp
            obtain ⟨⟨hp, hw⟩, hh⟩ : ∃ s, s = l.getD 0 default := ⟨_, rfl⟩
            rw [← hh] at y0 y1
            have HH := Aside0.mk hh.symm
            have HY0 := Aside0.mk (pw_cell_below fb.out y0)
            have HY1 := Aside0.mk (pw_cell_below fb.out y1)
            clear hh y0 y1 hl0 hin
            by_cases h1 : hp = ap
            · by_cases h2 : hw = aw
              · have HH2 := Aside0.mk (show l.getD 0 default = stepOf ⟨ap, aa, aw⟩ by rw [HH.out, h1, h2]; rfl)
                obtain rfl := h1.symm
                obtain rfl := h2.symm
                have HS0 : Aside0 (∀ W, Below W0.heap.size W0 W → (Below W0.heap.size W0 W ∧ W.cell? ⟨w.heap.size, 0, none⟩ = some (.slice A0 n.pieces.length c0) ∧ W.cell? ⟨w.heap.size, 1, none⟩ = some (.slice A1 n.joints.length c1) ∧ W.cell? ⟨w.heap.size + 1, 0, none⟩ = some (.bool true) ∧ W.cell? ⟨w.heap.size + 1, 1, none⟩ = some (.int .i64 far) ∧ W.cell? ⟨w.heap.size + 1, 2, none⟩ = some (.slice (some adS) l.length d0) ∧ W.cell? ⟨w.heap.size + 1, 3, none⟩ = some (.slice B1 pls.length d1) ∧ W.cell? ⟨w.heap.size + 1 + 1, 0, none⟩ = some (.int .i64 ap) ∧ W.cell? ⟨w.heap.size + 1 + 1, 1, none⟩ = some (.int .i64 aa) ∧ W.cell? ⟨w.heap.size + 1 + 1, 2, none⟩ = some (.int .i64 aw) ∧ W.cell? adS = some (.int .i64 ap) ∧ W.cell? ⟨adS.block, adS.off + 1, none⟩ = some (.int .i64 aw))) := ⟨fun W hb => ⟨hb, (HN.out.below hb).c 0 _ rfl, (HN.out.below hb).c 1 _ rfl, (HP.out.below hb).c 0 _ rfl, (HP.out.below hb).c 1 _ rfl, (HP.out.below hb).c 2 _ rfl, (HP.out.below hb).c 3 _ rfl, (HS.out.below hb).c 0 _ rfl, (HS.out.below hb).c 1 _ rfl, (HS.out.below hb).c 2 _ rfl, pw_cell_below hb HY0.out, pw_cell_below hb HY1.out⟩⟩
                go_enter Try.func93, Try.ntmps93
                go_wp2_with fail
                rw [← HW.out]
                refine wp_region_held_drew (S := fun W => Below W0.heap.size W0 W ∧ W.cell? ⟨w.heap.size, 0, none⟩ = some (.slice A0 n.pieces.length c0) ∧ W.cell? ⟨w.heap.size, 1, none⟩ = some (.slice A1 n.joints.length c1) ∧ W.cell? ⟨w.heap.size + 1, 0, none⟩ = some (.bool true) ∧ W.cell? ⟨w.heap.size + 1, 1, none⟩ = some (.int .i64 far) ∧ W.cell? ⟨w.heap.size + 1, 2, none⟩ = some (.slice (some adS) l.length d0) ∧ W.cell? ⟨w.heap.size + 1, 3, none⟩ = some (.slice B1 pls.length d1) ∧ W.cell? ⟨w.heap.size + 1 + 1, 0, none⟩ = some (.int .i64 ap) ∧ W.cell? ⟨w.heap.size + 1 + 1, 1, none⟩ = some (.int .i64 aa) ∧ W.cell? ⟨w.heap.size + 1 + 1, 2, none⟩ = some (.int .i64 aw) ∧ W.cell? adS = some (.int .i64 ap) ∧ W.cell? ⟨adS.block, adS.off + 1, none⟩ = some (.int .i64 aw)) (by kernel_rfl) ?_ (fun hHeld => ?_)
                · exact HS0.out _ (Below.drew (Below.refl _ _))
                refine tkq (i := 0) (v := ?_) rfl (Or.inl ⟨by rfl, ?_⟩) hHeld ?_; rotate_left; · (intro w h; (try dsimp only at h); go_simp; (try with_reducible rfl))
                (try simp only [Act.put, z1, z2, z3, z4, z5, z6])
                refine tkq (i := 1) (v := ?_) rfl (Or.inl ⟨by rfl, ?_⟩) hHeld ?_; rotate_left; · (intro w h; (try dsimp only at h); go_simp; (try with_reducible rfl))
                (try simp only [Act.put, z1, z2, z3, z4, z5, z6])
                refine tkq (i := 2) (v := ?_) rfl (Or.inl ⟨by rfl, ?_⟩) hHeld ?_; rotate_left; · (intro w h; (try dsimp only at h); go_simp; (try with_reducible rfl))
                (try simp only [Act.put, z1, z2, z3, z4, z5, z6])
                refine tkq (i := 3) (v := ?_) rfl (Or.inl ⟨by rfl, ?_⟩) hHeld ?_; rotate_left; · (intro w h; (try dsimp only at h); go_simp; (try with_reducible rfl))
                (try simp only [Act.put, z1, z2, z3, z4, z5, z6])
                refine tkq (i := 4) (v := ?_) rfl (Or.inl ⟨by rfl, ?_⟩) hHeld ?_; rotate_left; · (intro w h; (try dsimp only at h); go_simp; (try with_reducible rfl))
                (try simp only [Act.put, z1, z2, z3, z4, z5, z6])
                refine tkq (i := 5) (v := ?_) rfl (Or.inl ⟨by rfl, ?_⟩) hHeld ?_; rotate_left; · (intro w h; (try dsimp only at h); go_simp; (try with_reducible rfl))
                (try simp only [Act.put, z1, z2, z3, z4, z5, z6])
                refine wpAnyH_ready (rs := [6]) (by kernel_rfl) (by simp) ?_
                refine AllReadyH.cons rfl (fun K hK => ?_) AllReadyH.nil
                go_simp
                (go_at_call 47; go_split_ands; (with_reducible refine Calls.mono (specSpotOk_any n ((A0, c0), (A1, c1)) ⟨ap, aa, aw⟩ _ ((HR.out.below fb.out).below (by assumption)) HF.out) ?_); rintro e w3 ⟨rfl, b3⟩; rw [HSK.out]; have q3 : Below W0.heap.size W0 w3 := below_more (by assumption) b3; clear b3)
                go_wp2_with fail
                refine hK.out _ _ (HS0.out _ (by assumption)) (fun hHeld => ?_)
                clear hK K
                (try simp only [Act.put, z1, z2, z3, z4, z5, z6])
                refine tkq (i := 7) (v := ?_) rfl (Or.inl ⟨by rfl, ?_⟩) hHeld ?_; rotate_left; · (intro w h; (try dsimp only at h); go_simp; (try with_reducible rfl))
                (try simp only [Act.put, z1, z2, z3, z4, z5, z6])
                refine tkq (i := 8) (v := ?_) rfl (Or.inl ⟨by rfl, ?_⟩) hHeld ?_; rotate_left; · (intro w h; (try dsimp only at h); go_simp; (try with_reducible rfl))
                (try simp only [Act.put, z1, z2, z3, z4, z5, z6])
                refine tkq (i := 9) (v := ?_) rfl (Or.inl ⟨by rfl, ?_⟩) hHeld ?_; rotate_left; · (intro w h; (try dsimp only at h); go_simp; (try with_reducible rfl))
                (try simp only [Act.put, z1, z2, z3, z4, z5, z6])
                refine tkq (i := 10) (v := ?_) rfl (Or.inl ⟨by rfl, ?_⟩) hHeld ?_; rotate_left; · (intro w h; (try dsimp only at h); go_simp; (try with_reducible rfl))
                (try simp only [Act.put, z1, z2, z3, z4, z5, z6])
                refine tkq (i := 11) (v := ?_) rfl (Or.inl ⟨by rfl, ?_⟩) hHeld ?_; rotate_left; · (intro w h; (try dsimp only at h); go_simp; (try with_reducible rfl))
                (try simp only [Act.put, z1, z2, z3, z4, z5, z6])
                refine tkq (i := 12) (v := ?_) rfl (Or.inl ⟨by rfl, ?_⟩) hHeld ?_; rotate_left; · (intro w h; (try dsimp only at h); go_simp; (try with_reducible rfl))
                (try simp only [Act.put, z1, z2, z3, z4, z5, z6])
                refine tkq (i := 13) (v := .bool false) rfl (Or.inl ⟨by rfl, ?_⟩) hHeld ?_
                · (intro w hSw; (try dsimp only at hSw); go_simp; (try simp); (try omega))
                (try simp only [Act.put, z1, z2, z3, z4, z5, z6])
                refine tkq (i := 14) (v := ?_) rfl (Or.inl ⟨by rfl, ?_⟩) hHeld ?_; rotate_left; · (intro w h; (try dsimp only at h); go_simp; (try with_reducible rfl))
                (try simp only [Act.put, z1, z2, z3, z4, z5, z6])
                refine tkq (i := 15) (v := ?_) rfl (Or.inl ⟨by rfl, ?_⟩) hHeld ?_; rotate_left; · (intro w h; (try dsimp only at h); go_simp; (try with_reducible rfl))
                (try simp only [Act.put, z1, z2, z3, z4, z5, z6])
                refine tkq (i := 16) (v := ?_) rfl (Or.inl ⟨by rfl, ?_⟩) hHeld ?_; rotate_left; · (intro w h; (try dsimp only at h); go_simp; (try with_reducible rfl))
                (try simp only [Act.put, z1, z2, z3, z4, z5, z6])
                refine tkq (i := 17) (v := ?_) rfl (Or.inl ⟨by rfl, ?_⟩) hHeld ?_; rotate_left; · (intro w h; (try dsimp only at h); go_simp; (try with_reducible rfl))
                (try simp only [Act.put, z1, z2, z3, z4, z5, z6])
                refine tkq (i := 18) (v := ?_) rfl (Or.inl ⟨by rfl, ?_⟩) hHeld ?_; rotate_left; · (intro w h; (try dsimp only at h); go_simp; (try with_reducible rfl))
                (try simp only [Act.put, z1, z2, z3, z4, z5, z6])
                refine tkq (i := 19) (v := .bool false) rfl (Or.inl ⟨by rfl, ?_⟩) hHeld ?_
                · (intro w hSw; (try dsimp only at hSw); go_simp; (try simp); (try omega))
                (try simp only [Act.put, z1, z2, z3, z4, z5, z6])
                refine tkq (i := 20) (v := ?_) rfl (Or.inl ⟨by rfl, ?_⟩) hHeld ?_; rotate_left; · (intro w h; (try dsimp only at h); go_simp; (try with_reducible rfl))
                (try simp only [Act.put, z1, z2, z3, z4, z5, z6])
                refine tkq (i := 21) (v := ?_) rfl (Or.inl ⟨by rfl, ?_⟩) hHeld ?_; rotate_left; · (intro w h; (try dsimp only at h); go_simp; (try with_reducible rfl))
                (try simp only [Act.put, z1, z2, z3, z4, z5, z6])
                refine tkq (i := 22) (v := ?_) rfl (Or.inl ⟨by rfl, ?_⟩) hHeld ?_; rotate_left; · (intro w h; (try dsimp only at h); go_simp; (try with_reducible rfl))
                (try simp only [Act.put, z1, z2, z3, z4, z5, z6])
                refine tkq (i := 23) (v := ?_) rfl (Or.inl ⟨by rfl, ?_⟩) hHeld ?_; rotate_left; · (intro w h; (try dsimp only at h); go_simp; (try with_reducible rfl))
                (try simp only [Act.put, z1, z2, z3, z4, z5, z6])
                refine wpAnyH_ready (rs := [24]) (by kernel_rfl) (by simp) ?_
                refine AllReadyH.cons rfl (fun K hK => ?_) AllReadyH.nil
                go_simp
                (go_at_call 119; go_split_ands; (with_reducible refine Calls.mono (l1in_is far 0 1000000 _ HIN.out _) ?_); rintro e w4 ⟨rfl, rfl⟩; have q4 := q3)
                go_wp2_with fail
                refine hK.out _ _ (HS0.out _ (by assumption)) (fun hHeld => ?_)
                clear hK K
                (try simp only [Act.put, z1, z2, z3, z4, z5, z6])
                refine tkq (i := 25) (v := ?_) rfl (Or.inl ⟨by rfl, ?_⟩) hHeld ?_; rotate_left; · (intro w h; (try dsimp only at h); go_simp; (try with_reducible rfl))
                (try simp only [Act.put, z1, z2, z3, z4, z5, z6])
                refine tkq (i := 26) (v := ?_) rfl (Or.inl ⟨by rfl, ?_⟩) hHeld ?_; rotate_left; · (intro w h; (try dsimp only at h); go_simp; (try with_reducible rfl))
                (try simp only [Act.put, z1, z2, z3, z4, z5, z6])
                refine tkq (i := 27) (v := ?_) rfl (Or.inl ⟨by rfl, ?_⟩) hHeld ?_; rotate_left; · (intro w h; (try dsimp only at h); go_simp; (try with_reducible rfl))
                (try simp only [Act.put, z1, z2, z3, z4, z5, z6])
                refine tkq (i := 28) (v := ?_) rfl (Or.inl ⟨by rfl, ?_⟩) hHeld ?_; rotate_left; · (intro w h; (try dsimp only at h); go_simp; (try with_reducible rfl))
                (try simp only [Act.put, z1, z2, z3, z4, z5, z6])
                refine tkq (i := 29) (v := ?_) rfl (Or.inl ⟨by rfl, ?_⟩) hHeld ?_; rotate_left; · (intro w h; (try dsimp only at h); go_simp; (try with_reducible rfl))
                (try simp only [Act.put, z1, z2, z3, z4, z5, z6])
                refine tkq (i := 30) (v := ?_) rfl (Or.inl ⟨by rfl, ?_⟩) hHeld ?_; rotate_left; · (intro w h; (try dsimp only at h); go_simp; (try with_reducible rfl))
                (try simp only [Act.put, z1, z2, z3, z4, z5, z6])
                refine tkq (i := 31) (v := ?_) rfl (Or.inl ⟨by rfl, ?_⟩) hHeld ?_; rotate_left; · (intro w h; (try dsimp only at h); go_simp; (try with_reducible rfl))
                (try simp only [Act.put, z1, z2, z3, z4, z5, z6])
                refine tkq (i := 32) (v := ?_) rfl (Or.inl ⟨by rfl, ?_⟩) hHeld ?_; rotate_left; · (intro w h; (try dsimp only at h); go_simp; (try with_reducible rfl))
                (try simp only [Act.put, z1, z2, z3, z4, z5, z6])
                refine wpAnyH_ready (rs := [33]) (by kernel_rfl) (by simp) ?_
                refine AllReadyH.cons rfl (fun K hK => ?_) AllReadyH.nil
                go_simp
                (go_at_call 152; go_split_ands; (with_reducible refine Calls.mono (l4step_any ⟨ap, aa, aw⟩ _) ?_); rintro e w5 ⟨rfl, b5⟩; have q5 : Below W0.heap.size W0 w5 := below_more q4 b5; clear b5)
                go_wp2_with fail
                refine hK.out _ _ (HS0.out _ (by assumption)) (fun hHeld => ?_)
                clear hK K
                (try simp only [Act.put, z1, z2, z3, z4, z5, z6])
                refine tkq (i := 34) (v := .bool false) rfl (Or.inl ⟨by rfl, ?_⟩) hHeld ?_
                · (intro w hSw; (try dsimp only at hSw); go_simp; (try simp); (try omega))
                (try simp only [Act.put, z1, z2, z3, z4, z5, z6])
                refine tkq (i := 35) (v := ?_) rfl (Or.inl ⟨by rfl, ?_⟩) hHeld ?_; rotate_left; · (intro w h; (try dsimp only at h); go_simp; (try with_reducible rfl))
                (try simp only [Act.put, z1, z2, z3, z4, z5, z6])
                refine wpAnyH_done (by kernel_rfl) ?_ _
                have B5 := Aside0.mk (below_more fb.out q5)
                have N5 := Aside0.mk (HN.out.below q5)
                have P5 := Aside0.mk (HP.out.below q5)
                have S5 := Aside0.mk (HS.out.below q5)
                have Z5 := Aside0.mk (show W0.heap.size ≤ w5.heap.size from q5.size)
                have HZW := Aside0.mk (show w.heap.size + 1 + 1 < W0.heap.size from HS.out.lt)
                have p2 := P5.out.c 2 _ rfl
                clear hHeld HS0 q3 q4 q5
                go_wp2_with fail
                clear p2
                go_loopw [59] (fun v59 wr => ∃ i : Nat, v59 = .int .i64 (i : Int) ∧ i ≤ l.length ∧ Aside0 (∀ k, k < i → stepB n (l.getD k default) = true) ∧ Aside0 (Below w5.heap.size w5 wr)) (fun v59 _ => l.length - (intOf v59).toNat)
                case atStart => exact ⟨0, rfl, Nat.zero_le _, ⟨fun k hk => by omega⟩, ⟨Below.refl _ _⟩⟩
                case round =>
                  obtain ⟨i, rfl, hi, HT, HBr⟩ := hrel
                  have N6 := Aside0.mk (N5.out.below HBr.out)
                  have P6 := Aside0.mk (P5.out.below HBr.out)
                  have S6 := Aside0.mk (S5.out.below HBr.out)
                  have B6 := Aside0.mk (below_more B5.out HBr.out)
                  by_cases hlt : i < l.length
                  · obtain ⟨ad0, e0, y0, y1⟩ := at_Step HC.out i hlt
                    injection e0 with e0
                    subst e0
                    replace y0 := pw_cell_below B6.out y0
                    replace y1 := pw_cell_below B6.out y1
                    obtain ⟨⟨sp, sw⟩, hs⟩ : ∃ s, s = l.getD i default := ⟨_, rfl⟩
                    rw [← hs] at y0 y1
                    have N7 := Aside0.mk (N6.out.alloc (.cells #[.int .i64 sp, .int .i64 sw] 85))
                    have B7 := Aside0.mk (below_alloc HBr.out (.cells #[.int .i64 sp, .int .i64 sw] 85))
                    have BW7 := Aside0.mk (below_alloc B6.out (.cells #[.int .i64 sp, .int .i64 sw] 85))
                    have S7 := Aside0.mk (Bx.new wr [.int .i64 sp, .int .i64 sw] 85)
                    have n0 := N7.out.c 0 _ rfl
                    have hp1 := HG.out.p1
                    have hwn : IntKind.i64.wrap ((n.pieces.length : Int) - 1) = (n.pieces.length : Int) - 1 := wrap64 (by omega) (by omega)
                    cases hb : stepB n ⟨sp, sw⟩ with
                    | true =>
                      obtain ⟨h0, h1, h2⟩ := stepB_iff.1 hb
                      simp only at h0 h1 h2
                      have HSBI := Aside0.mk (show stepB n (l.getD i default) = true by rw [← hs]; exact hb)
                      have hin : Aside0 (inB sp 0 ((n.pieces.length : Int) - 1) = true) := ⟨inB_true.2 ⟨h0, by omega⟩⟩
                      clear hs hb h0 h1
                      rcases h2 with h2 | h2
                      · subst h2
                        go_wp2_with (go_at_call 119; (with_reducible refine Calls.mono (l1in_is _ _ _ _ hin.out _) ?_); rintro e w8 ⟨rfl, rfl⟩; have p1 := S7.out.c 1 _ rfl)
                        go_roundw
                        case rel => exact ⟨i + 1, by go_num, by omega, ⟨upto_step HT.out HSBI.out⟩, B7⟩
                        case measure => simp [intOf]; omega
                      · subst h2
                        go_wp2_with (go_at_call 119; (with_reducible refine Calls.mono (l1in_is _ _ _ _ hin.out _) ?_); rintro e w8 ⟨rfl, rfl⟩; have p1 := S7.out.c 1 _ rfl)
                        go_roundw
                        case rel => exact ⟨i + 1, by go_num, by omega, ⟨upto_step HT.out HSBI.out⟩, B7⟩
                        case measure => simp [intOf]; omega
                    | false =>
                      have HV := Aside0.mk (str_one (n := n) (p := ⟨true, far, l, pls⟩) (a := ⟨ap, aa, aw⟩) hlt (by show stepB n (l.getD i default) = false; rw [← hs]; exact hb))
                      have hnb : ¬ (0 ≤ sp ∧ sp < (n.pieces.length : Int) ∧ (sw = 1 ∨ sw = -1)) := fun h => by rw [stepB_iff.2 h] at hb; cases hb
                      clear hs hb
                      cases hib : inB sp 0 ((n.pieces.length : Int) - 1) with
                      | false =>
                        have hin := Aside0.mk hib
                        clear hnb hib
                        go_wp2_with (go_at_call 119; (with_reducible refine Calls.mono (l1in_is _ _ _ _ hin.out _) ?_); rintro e w8 ⟨rfl, rfl⟩; have p1 := S7.out.c 1 _ rfl)
                        go_ret
                        exact ⟨_, rfl, by rw [HV.out]; exact Kd.R_nil .., BW7.out⟩
                      | true =>
                        have hin := Aside0.mk hib
                        have hin2 := inB_true.1 hib
                        have q2 : (sw != 1) = true := by
                          have : ¬ sw = 1 := fun h => hnb ⟨by omega, by omega, .inl h⟩
                          simpa using this
                        have q3 : (sw != -1) = true := by
                          have : ¬ sw = -1 := fun h => hnb ⟨by omega, by omega, .inr h⟩
                          simpa using this
                        clear hnb hib hin2
                        go_wp2_with (go_at_call 119; (with_reducible refine Calls.mono (l1in_is _ _ _ _ hin.out _) ?_); rintro e w8 ⟨rfl, rfl⟩; have p1 := S7.out.c 1 _ rfl)
                        go_ret
                        exact ⟨_, rfl, by rw [HV.out]; exact Kd.R_nil .., BW7.out⟩
                  · have HSB := Aside0.mk (steps_all' (n := n) (l := l) (by omega) (fun k hk => HT.out k (by omega)))
                    have n0 := N6.out.c 0 _ rfl; have n1 := N6.out.c 1 _ rfl; have p2 := P6.out.c 2 _ rfl
                    go_wp2_with fail
                    (with_reducible refine Calls.mono (specPL_any n ((A0, c0), (A1, c1)) (some adS) d0 l _ (HR.out.below B6.out) HG.out (Kd.C_below HC.out B6.out) HSB.out) ?_)
                    rintro e w7 ⟨v7, rfl, hv7, b7⟩
                    have B7 := Aside0.mk (below_more B6.out b7)
                    have N7 := Aside0.mk (N6.out.below b7)
                    have P7 := Aside0.mk (P6.out.below b7)
                    have S7 := Aside0.mk (S6.out.below b7)
                    have Z7 := Aside0.mk (show W0.heap.size ≤ w7.heap.size by have h1 := Z5.out; have h2 := HBr.out.size; have h3 := b7.size; omega)
                    clear b7 hv7 n0 n1 p2 hlt hi
                    cases hok : plOk n l with
                    | false =>
                      have HV := Aside0.mk (str_lies (n := n) (p := ⟨true, far, l, pls⟩) (a := ⟨ap, aa, aw⟩) hok)
                      clear hok
                      go_wp2_with fail
                      go_ret
                      exact ⟨_, rfl, by rw [HV.out]; exact Kd.R_nil .., B7.out⟩
                    | true =>
                      have HOK := Aside0.mk hok
                      clear hok
                      have p1 := P7.out.c 1 _ rfl; have p2 := (P7.out.alloc (.cells #[.int .i64 ap, .int .i64 aa, .int .i64 aw] 38)).c 2 _ rfl
                      have s0 := S7.out.c 0 _ rfl; have s1 := S7.out.c 1 _ rfl; have s2 := S7.out.c 2 _ rfl
                      obtain ⟨W8, hW8⟩ : ∃ W8, W8 = w7.alloc (.cells #[.int .i64 ap, .int .i64 aa, .int .i64 aw] 38) := ⟨_, rfl⟩
                      have TB : Aside0 (Bx W8 w7.heap.size [.int .i64 ap, .int .i64 aa, .int .i64 aw]) := ⟨by rw [hW8]; exact Bx.new w7 _ 38⟩
                      have NB : Aside0 (Bx W8 w.heap.size [.slice A0 n.pieces.length c0, .slice A1 n.joints.length c1]) := ⟨by rw [hW8]; exact N7.out.alloc _⟩
                      have PB : Aside0 (Bx W8 (w.heap.size + 1) [.bool true, .int .i64 far, .slice (some adS) l.length d0, .slice B1 pls.length d1]) := ⟨by rw [hW8]; exact P7.out.alloc _⟩
                      have BB : Aside0 (Below w.heap.size w W8) := ⟨by rw [hW8]; exact below_alloc B7.out _⟩
                      have ZB : Aside0 (W8.heap.size = w7.heap.size + 1) := ⟨by rw [hW8]; simp⟩
                      have HW8 := Aside0.mk hW8
                      clear hW8
                      obtain ⟨tb, htb⟩ : ∃ b, b = w7.heap.size := ⟨_, rfl⟩
                      go_wp2_with fail
                      rw [← HW8.out]
                      rw [← htb] at TB ZB ⊢
                      have HTB := Aside0.mk (show w.heap.size + 1 + 1 < tb by have h1 := HZW.out; have h2 := Z7.out; omega)
                      clear p1 p2 s0 s1 s2 htb
                      go_loopw [11, 12, 97] (fun v11 v12 v97 wr => ∃ (i : Nat) (ps : List PartT) (left : Int) (PA : Option Addr) (pc : Nat) (pp pa pw : Int), v11 = .slice PA ps.length pc ∧ v12 = .int .i64 left ∧ v97 = .int .i64 (i : Int) ∧ i ≤ l.length ∧ Aside0 (SG n far ⟨ap, aa, aw⟩ l i ps left) ∧ Aside0 (i = 0 → pp = ap ∧ pa = aa ∧ pw = aw) ∧ Aside0 (Kd.R kPart 89 wr (tb + 1) (fun _ => True) (.slice PA ps.length pc) ps) ∧ Aside0 (Bx wr w.heap.size [.slice A0 n.pieces.length c0, .slice A1 n.joints.length c1]) ∧ Aside0 (Bx wr (w.heap.size + 1) [.bool true, .int .i64 far, .slice (some adS) l.length d0, .slice B1 pls.length d1]) ∧ Aside0 (Bx wr tb [.int .i64 pp, .int .i64 pa, .int .i64 pw]) ∧ Aside0 (Below w.heap.size w wr) ∧ tb + 1 ≤ wr.heap.size) (fun _ _ v97 _ => l.length - (intOf v97).toNat)
                      case atStart => exact ⟨0, [], far, none, 0, ap, aa, aw, rfl, rfl, rfl, Nat.zero_le _, ⟨SG.start HFA.out.1 HFA.out.2⟩, ⟨fun _ => ⟨rfl, rfl, rfl⟩⟩, ⟨Kd.R_nil ..⟩, NB, PB, TB, BB, by have := ZB.out; omega⟩
                      case round =>
                        clear NB PB TB BB N6 P6 S6 B6 HBr HT
                        obtain ⟨i, ps, left, PA, pc, pp, pa, pw, rfl, rfl, rfl, hi, HSG, HPR, HO, N6, P6, T6, B6, hz6⟩ := hrel
                        obtain ⟨WO, hWO⟩ : ∃ WO : World, WO = wr := ⟨_, rfl⟩
                        subst hWO
                        by_cases hlt : i < l.length
                        · obtain ⟨adI, eI, y0, y1⟩ := at_Step HC.out i hlt
                          injection eI with eI
                          subst eI
                          replace y0 := pw_cell_below B6.out y0
                          replace y1 := pw_cell_below B6.out y1
                          obtain ⟨hxs, hen⟩ := spotAt_ok HG.out HSP.out HSB.out hlt
                          have hxp := spotAt_piece (n := n) HH2.out (i := i)
                          have hst : stepB n (l.getD i default) = true := by
                            have := HSB.out
                            unfold stepsB at this
                            simp only [Bool.and_eq_true, List.all_eq_true] at this
                            exact this.2 _ (getD_mem l i hlt)
                          have hxe : i ≠ 0 → spotAt n ⟨ap, aa, aw⟩ l i = enterS n (beginS (l.getD i default)) := fun h => by unfold spotAt; rw [if_neg h]
                          have hx0 : i = 0 → spotAt n ⟨ap, aa, aw⟩ l i = ⟨ap, aa, aw⟩ := fun h => by unfold spotAt; rw [if_pos h]
                          obtain ⟨⟨sp, sw⟩, hs⟩ : ∃ s, s = l.getD i default := ⟨_, rfl⟩
                          rw [← hs] at y0 y1 hxp hst hxe hen
                          obtain ⟨⟨xp, xa, xw⟩, hx⟩ : ∃ x, x = spotAt n ⟨ap, aa, aw⟩ l i := ⟨_, rfl⟩
                          rw [← hx] at hxs hxp hxe hx0
                          replace hxp : xp = sp := hxp
                          subst hxp
                          have HX := Aside0.mk hx
                          have HXE := Aside0.mk hxe
                          have HX0 := Aside0.mk (show i = 0 → xp = pp ∧ xa = pa ∧ xw = pw from fun h => by
                            have e := hx0 h
                            injection e with e1 e2 e3
                            obtain ⟨k1, k2, k3⟩ := HPR.out h
                            exact ⟨e1.trans k1.symm, e2.trans k2.symm, e3.trans k3.symm⟩)
                          have hxb := spotB_iff.1 hxs
                          have hrb := roomS_bd HG.out hxs
                          have hlen := HG.out.len hxb.1 hxb.2.1
                          have hsw := stepB_iff.1 hst
                          simp only at hxb hsw hlen
                          have hneg : IntKind.i64.wrap (-sw) = -sw := wrap64 (by omega) (by omega)
                          have hi0' : (0 : Int) ≤ (i : Int) := by omega
                          have hi1' : (i : Int) < (l.length : Int) := by omega
                          obtain ⟨⟨bp, bs⟩, hbe⟩ : ∃ e, e = beginS ⟨xp, sw⟩ := ⟨_, rfl⟩
                          have HLV : Aside0 ((Value.agg #[.int .i64 (headE ⟨xp, 0, -sw⟩).piece, .int .i64 (headE ⟨xp, 0, -sw⟩).side]) = (Value.agg #[.int .i64 bp, .int .i64 bs])) := ⟨by
                            have : headE ⟨xp, 0, -sw⟩ = beginS ⟨xp, sw⟩ := head_begin hst
                            rw [this, ← hbe]⟩
                          have HBE := Aside0.mk hbe
                          have HBP := Aside0.mk (show bp = xp from congrArg EndT.piece hbe)
                          have HXB := Aside0.mk hxb
                          have HRB := Aside0.mk hrb
                          have HLN := Aside0.mk hlen
                          have HYI0 := Aside0.mk y0
                          have HYI1 := Aside0.mk y1
                          have HZ6 := Aside0.mk hz6
                          clear hs hx hxs hxe hx0 hen hst hxb hrb hlen hbe hsw hz6
                          go_upto_if 101 with (fail)
                          go_cut [15] (fun s15 W => Aside0 (Below w.heap.size w W) ∧ Aside0 (Bx W w.heap.size [.slice A0 n.pieces.length c0, .slice A1 n.joints.length c1]) ∧ Aside0 (Bx W (w.heap.size + 1) [.bool true, .int .i64 far, .slice (some adS) l.length d0, .slice B1 pls.length d1]) ∧ Aside0 (Bx W tb [.int .i64 xp, .int .i64 xa, .int .i64 xw]) ∧ Aside0 (Kd.R kPart 89 W (tb + 1) (fun _ => True) (.slice PA ps.length pc) ps) ∧ Aside0 (tb + 1 ≤ W.heap.size))
                          case first =>
                           by_cases hi0 : i = 0
                           · obtain ⟨e1, e2, e3⟩ := HX0.out hi0
                             have hgt : ¬ (0 : Int) < (i : Int) := by omega
                             have T62 := Aside0.mk (show Bx WO tb [.int .i64 xp, .int .i64 xa, .int .i64 xw] by rw [e1, e2, e3]; exact T6.out)
                             clear hi0 e1 e2 e3 y0 y1
                             go_wp2_with fail
                             go_meet
                             case rel => exact ⟨B6, N6, P6, T62, HO, HZ6⟩
                           · have hgt : (0 : Int) < (i : Int) := by omega
                             have HEV : Aside0 ((Value.agg #[.int .i64 (enterS n ⟨bp, bs⟩).piece, .int .i64 (enterS n ⟨bp, bs⟩).at_, .int .i64 (enterS n ⟨bp, bs⟩).way]) = (Value.agg #[.int .i64 xp, .int .i64 xa, .int .i64 xw])) := ⟨by rw [HBE.out, ← HXE.out hi0]⟩
                             have p2 := P6.out.c 2 _ rfl
                             clear hi0
                             go_wp2_with fail
                             have HShE : Aside0 (∀ W, Below WO.heap.size WO W → (Below WO.heap.size WO W ∧ W.cell? ⟨w.heap.size + 1, 2, none⟩ = some (.slice (some adS) l.length d0) ∧ W.cell? (adS.add (i * 2)) = some (.int .i64 xp) ∧ W.cell? ⟨(adS.add (i * 2)).block, (adS.add (i * 2)).off + 1, none⟩ = some (.int .i64 sw))) := ⟨fun W hb => ⟨hb, (P6.out.below hb).c 2 _ rfl, pw_cell_below hb HYI0.out, pw_cell_below hb HYI1.out⟩⟩
                             go_cut [15] (fun sv W => ∃ bn, sv = .pointer (some ⟨bn, 0, none⟩) ∧ Aside0 (Below WO.heap.size WO W) ∧ Aside0 (Bx W bn [.int .i64 bp, .int .i64 bs]))
                             case first =>
                               go_region_held3 (fun W => Below WO.heap.size WO W ∧ W.cell? ⟨w.heap.size + 1, 2, none⟩ = some (.slice (some adS) l.length d0) ∧ W.cell? (adS.add (i * 2)) = some (.int .i64 xp) ∧ W.cell? ⟨(adS.add (i * 2)).block, (adS.add (i * 2)).off + 1, none⟩ = some (.int .i64 sw))
                                 (first | (with_reducible assumption) | (with_reducible exact HShE.out _ (by with_reducible assumption)) | (with_reducible exact HShE.out _ (by repeat (first | (with_reducible assumption) | (with_reducible refine below_set ?_ (Below.size (by with_reducible assumption))) | (with_reducible refine below_set ?_ (Nat.le_refl _)) | (with_reducible refine below_set ?_ (by omega)) | (with_reducible refine below_alloc ?_ _) | (with_reducible exact Below.refl _ _) | (with_reducible refine below_drew ?_)))))
                                 (first
                                   | (go_at_call 157; go_split_ands; (with_reducible refine Calls.mono (l3head_any ⟨xp, 0, -sw⟩ _) ?_); rintro e hEw ⟨rfl, b3⟩; rw [HLV.out]; have hEq : Below WO.heap.size WO hEw := below_more (by assumption) b3; have hEz := hEq.size; (first | (with_reducible have hEX := Aside0.mk ((Bx.new _ [.int .i64 0, .int .i64 0] 67).below b3)) | (with_reducible have hEX := Aside0.mk ((Bx.drew (Bx.new _ [.int .i64 0, .int .i64 0] 67)).below b3)) | skip); (first | (have hEx0 := hEX.out.c 0 _ rfl; have hExf0 := hEX.out.f 0; have hEx1 := hEX.out.c 1 _ rfl; have hExf1 := hEX.out.f 1; have hExl := hEX.out.lt) | skip); have hEQ := Aside0.mk hEq; clear b3))
                               all_goals
                                 try go_wp2_with fail
                                 go_meet
                                 case rel =>
                                   first
                                     | (with_reducible refine ⟨_, rfl, ⟨below_alloc hEQ.out _⟩, ⟨Bx.new' _ _ _ rfl⟩⟩; done)
                                     | (refine ⟨_, rfl, ⟨?_⟩, ⟨?_⟩⟩
                                        · repeat (first | (with_reducible exact hEQ.out) | (with_reducible refine below_set ?_ (Below.size (by with_reducible assumption))) | (with_reducible refine below_set ?_ (Nat.le_refl _)) | (with_reducible refine below_set ?_ (by omega)) | (with_reducible refine below_alloc ?_ _))
                                        · exact ((hEX.out.set (i := 0) (by simp) _).set (i := 1) (by simp) _))
                             case rest =>
                             obtain ⟨hEb, rfl, hEB, XE⟩ := hcut
                             obtain ⟨WhE, hWhE⟩ : ∃ WhE, WhE = wc := ⟨_, rfl⟩
                             subst hWhE
                             have N7 := Aside0.mk (N6.out.below hEB.out)
                             have P7' := Aside0.mk (P6.out.below hEB.out)
                             have T7 := Aside0.mk (T6.out.below hEB.out)
                             have B7' := Aside0.mk (below_more B6.out hEB.out)
                             have O7 := Aside0.mk (Kd.R_below HO.out hEB.out)
                             have Z7' := Aside0.mk (show tb + 1 ≤ WhE.heap.size by have h1 := HZ6.out; have h2 := hEB.out.size; omega)
                             have n0 := N7.out.c 0 _ rfl; have n1 := N7.out.c 1 _ rfl; have x0 := XE.out.c 0 _ rfl; have x1 := XE.out.c 1 _ rfl
                             clear y0 y1 p2
                             go_wp2_with fail
                             (with_reducible refine Calls.mono (l3enter_any n ((A0, c0), (A1, c1)) ⟨bp, bs⟩ _ (HR.out.below B7'.out) (by have := HXB.out; have := HBP.out; simp only; omega) (by have := HXB.out; have := HBP.out; simp only; omega)) ?_)
                             rintro e w9 ⟨rfl, b9⟩
                             rw [HEV.out]
                             have N9 := Aside0.mk (N7.out.below b9)
                             have P9 := Aside0.mk (P7'.out.below b9)
                             have T9 := Aside0.mk (T7.out.below b9)
                             have B9 := Aside0.mk (below_more B7'.out b9)
                             have O9 := Aside0.mk (Kd.R_below O7.out b9)
                             have Z9 := Aside0.mk (show tb + 1 ≤ w9.heap.size by have h1 := Z7'.out; have h2 := b9.size; omega)
                             clear b9 n0 n1 x0 x1
                             have t0 := T9.out.c 0 _ rfl; have t1 := T9.out.c 1 _ rfl; have t2 := T9.out.c 2 _ rfl; have tf0 := T9.out.f 0; have tf1 := T9.out.f 1; have tf2 := T9.out.f 2; have tl := T9.out.lt
                             go_wp2_with fail
                             go_meet
                             case rel =>
                               have htb := HTB.out
                               refine ⟨⟨?_⟩, ⟨?_⟩, ⟨?_⟩, ⟨((T9.out.set (i := 0) (by simp) _).set (i := 1) (by simp) _).set (i := 2) (by simp) _⟩, ⟨?_⟩, ⟨by simpa [World.setCell] using Z9.out⟩⟩
                               · repeat (first | (with_reducible exact B9.out) | (with_reducible refine below_set ?_ (show w.heap.size ≤ tb by omega)))
                               · repeat (first | (with_reducible exact N9.out) | (with_reducible refine Bx.far ?_ (by omega) _))
                               · repeat (first | (with_reducible exact P9.out) | (with_reducible refine Bx.far ?_ (by omega) _))
                               · exact R_apart (R_apart (R_apart O9.out (show tb < tb + 1 by omega) _) (show tb < tb + 1 by omega) _) (show tb < tb + 1 by omega) _
                          case rest =>
                            obtain ⟨B3, N3, P3, T3, O3, Z3⟩ := hcut
                            obtain ⟨W3, hW3⟩ : ∃ W3, W3 = wc := ⟨_, rfl⟩
                            subst hW3
                            have n0 := N3.out.c 0 _ rfl; have n1 := N3.out.c 1 _ rfl; have t0 := T3.out.c 0 _ rfl; have t1 := T3.out.c 1 _ rfl; have t2 := T3.out.c 2 _ rfl
                            clear y0 y1
                            go_wp2_with fail
                            (with_reducible refine Calls.mono (l3room_any n ((A0, c0), (A1, c1)) ⟨xp, xa, xw⟩ _ (HR.out.below B3.out) (by have := HXB.out; simp only; omega) (by have := HXB.out; simp only; omega) (by have := HXB.out; simp only; omega) (by have := HXB.out; simp only; omega) (by have := HLN.out; simp only; omega)) ?_)
                            rintro e W4 ⟨rfl, b8⟩
                            obtain ⟨rm, hrm⟩ : ∃ r, r = roomS n ⟨xp, xa, xw⟩ := ⟨_, rfl⟩
                            rw [← hrm]
                            have N8 := Aside0.mk (N3.out.below b8)
                            have P8 := Aside0.mk (P3.out.below b8)
                            have T8 := Aside0.mk (T3.out.below b8)
                            have B8 := Aside0.mk (below_more B3.out b8)
                            have O8 := Aside0.mk (Kd.R_below O3.out b8)
                            have HZ8 := Aside0.mk (show tb + 1 ≤ W4.heap.size by have h1 := Z3.out; have h2 := b8.size; omega)
                            have HRM := Aside0.mk hrm
                            have hb := HRB.out
                            rw [← hrm] at hb
                            have HRM2 := Aside0.mk hb
                            clear b8 hrm hb n0 n1 t0 t1 t2
                            obtain ⟨lg, hlg⟩ : ∃ x, x = legOf n ⟨xp, xa, xw⟩ left := ⟨_, rfl⟩
                            have HLG := Aside0.mk hlg
                            have HMN := Aside0.mk (show lg = min rm left by rw [hlg, HRM.out]; rfl)
                            clear hlg
                            go_upto_if 125 with (fail)
                            go_cut [16] (fun s16 W => s16 = .int .i64 lg ∧ W = W4)
                            case first =>
                              by_cases hlr : left < rm
                              · have : lg = left := by have := HMN.out; omega
                                subst this
                                go_wp2_with fail
                                go_meet
                                case rel => exact ⟨rfl, rfl⟩
                              · have : lg = rm := by have := HMN.out; omega
                                subst this
                                go_wp2_with fail
                                go_meet
                                case rel => exact ⟨rfl, rfl⟩
                            case rest =>
                              obtain ⟨rfl, rfl⟩ := hcut
                              obtain ⟨W4, hW4⟩ : ∃ W4, W4 = wc := ⟨_, rfl⟩
                              subst hW4
                              have hlb : 0 ≤ lg ∧ lg ≤ 1000000 ∧ lg ≤ left := by have h1 := HMN.out; have h2 := HRM2.out; have h3 := HSG.out.l0; have h4 := HSG.out.l1; omega
                              have HNX := Aside0.mk (HSG.out.next hlt HX.out (by rw [← HRM.out]; exact HRM2.out.1))
                              rw [← HLG.out] at HNX
                              obtain ⟨y, hy⟩ : ∃ y, y = xa + lg * xw := ⟨_, rfl⟩
                              have hmul : -1000000 ≤ lg * xw ∧ lg * xw ≤ 1000000 := by
                                rcases HXB.out.2.2.1 with h | h <;> rw [h] <;> omega
                              obtain ⟨m, hm⟩ : ∃ m, m = lg * xw := ⟨_, rfl⟩
                              rw [← hm] at hy hmul
                              have hw1 : IntKind.i64.wrap (lg * xw) = m := by rw [← hm]; exact wrap64 (by omega) (by omega)
                              have hw2 : IntKind.i64.wrap (xa + m) = y := by rw [← hy]; have h1 := HXB.out; have h2 := HLN.out; exact wrap64 (by omega) (by omega)
                              have hw3 : IntKind.i64.wrap (left - lg) = left - lg := by have h3 := HSG.out.l0; have h4 := HSG.out.l1; exact wrap64 (by omega) (by omega)
                              have HPT := Aside0.mk (show partOf ⟨xp, xa, xw⟩ lg = ⟨xp, min xa y, max xa y⟩ by unfold partOf; simp only; rw [hy, hm])
                              have HPLN := Aside0.mk (show ps.length ≤ 400 by have := HSG.out.len; omega)
                              clear hy hm hmul hlb
                              have t0 := T8.out.c 0 _ rfl; have t1 := T8.out.c 1 _ rfl; have t2 := T8.out.c 2 _ rfl
                              rcases Int.lt_trichotomy y xa with hyx | hyx | hyx
                              · have hyx2 : ¬ xa < y := by omega
                                have HPT2 := Aside0.mk (show partOf ⟨xp, xa, xw⟩ lg = ⟨xp, y, xa⟩ by rw [HPT.out, show min xa y = y by omega, show max xa y = xa by omega])
                                rw [HPT2.out] at HNX
                                have HLEN : Aside0 ((ps ++ [(⟨xp, y, xa⟩ : PartT)]).length = ps.length + 1) := ⟨by simp⟩
                                go_wp2_with ((with_reducible refine gate_callP (b := .append) (xs := #[.tmp 142, .tmp 148]) rfl ?_); at_builtin; refine Kd.R_append kPart (w0 := W4) (tb + 1) rfl (.tmp 142) (.tmp 148) 26 89 (.agg #[.int .i64 0, .int .i64 0, .int .i64 0]) 24 rfl Try.underlying26 info89 rfl (by decide) (by omega) (.slice PA ps.length pc) ps ⟨xp, y, xa⟩ [.int .i64 xp, .int .i64 y, .int .i64 xa] (fun _ => True) (fun _ => False) rfl (by first | (go_simp; done) | (go_simp; rfl)) (kPart_mkM _ _ _ ⟨xp, y, xa⟩) (fun _ hk => hk.elim) (fun _ _ => trivial) O8.out (Below.refl _ _) HZ8.out (by have := HPLN.out; omega) ?_; intro v1 w9 hR9 hB9 hG9 hat9; obtain ⟨pA1, pc1, hv9⟩ := Kd.R_slice hR9; rw [HLEN.out] at hv9; subst hv9; have R9 := Aside0.mk hR9; have G9 := Aside0.mk hG9; have B9 := Aside0.mk hB9; clear hR9 hB9 hG9 hat9)
                                go_roundw
                                case rel =>
                                  have h1 := HTB.out
                                  have hne : ∀ b, b < tb + 1 → some b ≠ (Value.slice PA ps.length pc).ownBlock := fun b hb he => by have := Kd.R_base O8.out _ he.symm; omega
                                  refine ⟨i + 1, ps ++ [(⟨xp, y, xa⟩ : PartT)], left - lg, pA1, pc1, xp, xa, xw, by rw [HLEN.out], rfl, by go_num, by omega, HNX, ⟨fun h => by omega⟩, ⟨by rw [HLEN.out]; exact R9.out⟩, ⟨N8.out.grownP G9.out (hne _ (by omega))⟩, ⟨P8.out.grownP G9.out (hne _ (by omega))⟩, ⟨T8.out.grownP G9.out (hne _ (by omega))⟩, ⟨?_⟩, by have h2 := B9.out.size; have h3 := HZ8.out; omega⟩
                                  exact B8.out.trans ⟨B9.out.os, B9.out.tape, B9.out.output, B9.out.size, fun i hi => B9.out.block i (by omega)⟩
                                case measure => simp [intOf]; omega
                              · subst hyx
                                have HPT2 := Aside0.mk (show partOf ⟨xp, y, xw⟩ lg = ⟨xp, y, y⟩ by rw [HPT.out, show min y y = y by omega, show max y y = y by omega])
                                rw [HPT2.out] at HNX
                                have HLEN : Aside0 ((ps ++ [(⟨xp, y, y⟩ : PartT)]).length = ps.length + 1) := ⟨by simp⟩
                                go_wp2_with ((with_reducible refine gate_callP (b := .append) (xs := #[.tmp 142, .tmp 148]) rfl ?_); at_builtin; refine Kd.R_append kPart (w0 := W4) (tb + 1) rfl (.tmp 142) (.tmp 148) 26 89 (.agg #[.int .i64 0, .int .i64 0, .int .i64 0]) 24 rfl Try.underlying26 info89 rfl (by decide) (by omega) (.slice PA ps.length pc) ps ⟨xp, y, y⟩ [.int .i64 xp, .int .i64 y, .int .i64 y] (fun _ => True) (fun _ => False) rfl (by first | (go_simp; done) | (go_simp; rfl)) (kPart_mkM _ _ _ ⟨xp, y, y⟩) (fun _ hk => hk.elim) (fun _ _ => trivial) O8.out (Below.refl _ _) HZ8.out (by have := HPLN.out; omega) ?_; intro v1 w9 hR9 hB9 hG9 hat9; obtain ⟨pA1, pc1, hv9⟩ := Kd.R_slice hR9; rw [HLEN.out] at hv9; subst hv9; have R9 := Aside0.mk hR9; have G9 := Aside0.mk hG9; have B9 := Aside0.mk hB9; clear hR9 hB9 hG9 hat9)
                                go_roundw
                                case rel =>
                                  have h1 := HTB.out
                                  have hne : ∀ b, b < tb + 1 → some b ≠ (Value.slice PA ps.length pc).ownBlock := fun b hb he => by have := Kd.R_base O8.out _ he.symm; omega
                                  refine ⟨i + 1, ps ++ [(⟨xp, y, y⟩ : PartT)], left - lg, pA1, pc1, xp, y, xw, by rw [HLEN.out], rfl, by go_num, by omega, HNX, ⟨fun h => by omega⟩, ⟨by rw [HLEN.out]; exact R9.out⟩, ⟨N8.out.grownP G9.out (hne _ (by omega))⟩, ⟨P8.out.grownP G9.out (hne _ (by omega))⟩, ⟨T8.out.grownP G9.out (hne _ (by omega))⟩, ⟨?_⟩, by have h2 := B9.out.size; have h3 := HZ8.out; omega⟩
                                  exact B8.out.trans ⟨B9.out.os, B9.out.tape, B9.out.output, B9.out.size, fun i hi => B9.out.block i (by omega)⟩
                                case measure => simp [intOf]; omega
                              · have hyx2 : ¬ y < xa := by omega
                                have HPT2 := Aside0.mk (show partOf ⟨xp, xa, xw⟩ lg = ⟨xp, xa, y⟩ by rw [HPT.out, show min xa y = xa by omega, show max xa y = y by omega])
                                rw [HPT2.out] at HNX
                                have HLEN : Aside0 ((ps ++ [(⟨xp, xa, y⟩ : PartT)]).length = ps.length + 1) := ⟨by simp⟩
                                go_wp2_with ((with_reducible refine gate_callP (b := .append) (xs := #[.tmp 142, .tmp 148]) rfl ?_); at_builtin; refine Kd.R_append kPart (w0 := W4) (tb + 1) rfl (.tmp 142) (.tmp 148) 26 89 (.agg #[.int .i64 0, .int .i64 0, .int .i64 0]) 24 rfl Try.underlying26 info89 rfl (by decide) (by omega) (.slice PA ps.length pc) ps ⟨xp, xa, y⟩ [.int .i64 xp, .int .i64 xa, .int .i64 y] (fun _ => True) (fun _ => False) rfl (by first | (go_simp; done) | (go_simp; rfl)) (kPart_mkM _ _ _ ⟨xp, xa, y⟩) (fun _ hk => hk.elim) (fun _ _ => trivial) O8.out (Below.refl _ _) HZ8.out (by have := HPLN.out; omega) ?_; intro v1 w9 hR9 hB9 hG9 hat9; obtain ⟨pA1, pc1, hv9⟩ := Kd.R_slice hR9; rw [HLEN.out] at hv9; subst hv9; have R9 := Aside0.mk hR9; have G9 := Aside0.mk hG9; have B9 := Aside0.mk hB9; clear hR9 hB9 hG9 hat9)
                                go_roundw
                                case rel =>
                                  have h1 := HTB.out
                                  have hne : ∀ b, b < tb + 1 → some b ≠ (Value.slice PA ps.length pc).ownBlock := fun b hb he => by have := Kd.R_base O8.out _ he.symm; omega
                                  refine ⟨i + 1, ps ++ [(⟨xp, xa, y⟩ : PartT)], left - lg, pA1, pc1, xp, xa, xw, by rw [HLEN.out], rfl, by go_num, by omega, HNX, ⟨fun h => by omega⟩, ⟨by rw [HLEN.out]; exact R9.out⟩, ⟨N8.out.grownP G9.out (hne _ (by omega))⟩, ⟨P8.out.grownP G9.out (hne _ (by omega))⟩, ⟨T8.out.grownP G9.out (hne _ (by omega))⟩, ⟨?_⟩, by have h2 := B9.out.size; have h3 := HZ8.out; omega⟩
                                  exact B8.out.trans ⟨B9.out.os, B9.out.tape, B9.out.output, B9.out.size, fun i hi => B9.out.block i (by omega)⟩
                                case measure => simp [intOf]; omega
                        · have HDN := Aside0.mk (str_done (n := n) (p := ⟨true, far, l, pls⟩) (a := ⟨ap, aa, aw⟩) rfl HGD.out HSP.out HFA.out HLP.out HH2.out HOK.out (HSG.out.stop HLP.out (by omega)))
                          by_cases hle : 0 < left
                          · have HV := Aside0.mk (show stretchV n ⟨true, far, l, pls⟩ ⟨ap, aa, aw⟩ = [] by rw [HDN.out, if_pos hle])
                            go_wp2_with fail
                            go_ret
                            exact ⟨_, rfl, by rw [HV.out]; exact Kd.R_nil .., B6.out⟩
                          · have HV := Aside0.mk (show stretchV n ⟨true, far, l, pls⟩ ⟨ap, aa, aw⟩ = ps by rw [HDN.out, if_neg hle])
                            go_wp2_with fail
                            go_ret
                            exact ⟨_, rfl, by rw [HV.out]; exact Kd.R_lower HO.out (by have := HTB.out; omega), B6.out⟩
              · have HV := Aside0.mk (str_head (n := n) (p := ⟨true, far, l, pls⟩) (a := ⟨ap, aa, aw⟩) HLP.out (by simp only; rw [HH.out]; exact fun e => h2 (by injection e)))
                obtain rfl := h1.symm
                have HS0 : Aside0 (∀ W, Below W0.heap.size W0 W → (Below W0.heap.size W0 W ∧ W.cell? ⟨w.heap.size, 0, none⟩ = some (.slice A0 n.pieces.length c0) ∧ W.cell? ⟨w.heap.size, 1, none⟩ = some (.slice A1 n.joints.length c1) ∧ W.cell? ⟨w.heap.size + 1, 0, none⟩ = some (.bool true) ∧ W.cell? ⟨w.heap.size + 1, 1, none⟩ = some (.int .i64 far) ∧ W.cell? ⟨w.heap.size + 1, 2, none⟩ = some (.slice (some adS) l.length d0) ∧ W.cell? ⟨w.heap.size + 1, 3, none⟩ = some (.slice B1 pls.length d1) ∧ W.cell? ⟨w.heap.size + 1 + 1, 0, none⟩ = some (.int .i64 ap) ∧ W.cell? ⟨w.heap.size + 1 + 1, 1, none⟩ = some (.int .i64 aa) ∧ W.cell? ⟨w.heap.size + 1 + 1, 2, none⟩ = some (.int .i64 aw) ∧ W.cell? adS = some (.int .i64 ap) ∧ W.cell? ⟨adS.block, adS.off + 1, none⟩ = some (.int .i64 hw))) := ⟨fun W hb => ⟨hb, (HN.out.below hb).c 0 _ rfl, (HN.out.below hb).c 1 _ rfl, (HP.out.below hb).c 0 _ rfl, (HP.out.below hb).c 1 _ rfl, (HP.out.below hb).c 2 _ rfl, (HP.out.below hb).c 3 _ rfl, (HS.out.below hb).c 0 _ rfl, (HS.out.below hb).c 1 _ rfl, (HS.out.below hb).c 2 _ rfl, pw_cell_below hb HY0.out, pw_cell_below hb HY1.out⟩⟩
                go_enter Try.func93, Try.ntmps93
                go_wp2_with fail
                rw [← HW.out]
                refine wp_region_held_drew (S := fun W => Below W0.heap.size W0 W ∧ W.cell? ⟨w.heap.size, 0, none⟩ = some (.slice A0 n.pieces.length c0) ∧ W.cell? ⟨w.heap.size, 1, none⟩ = some (.slice A1 n.joints.length c1) ∧ W.cell? ⟨w.heap.size + 1, 0, none⟩ = some (.bool true) ∧ W.cell? ⟨w.heap.size + 1, 1, none⟩ = some (.int .i64 far) ∧ W.cell? ⟨w.heap.size + 1, 2, none⟩ = some (.slice (some adS) l.length d0) ∧ W.cell? ⟨w.heap.size + 1, 3, none⟩ = some (.slice B1 pls.length d1) ∧ W.cell? ⟨w.heap.size + 1 + 1, 0, none⟩ = some (.int .i64 ap) ∧ W.cell? ⟨w.heap.size + 1 + 1, 1, none⟩ = some (.int .i64 aa) ∧ W.cell? ⟨w.heap.size + 1 + 1, 2, none⟩ = some (.int .i64 aw) ∧ W.cell? adS = some (.int .i64 ap) ∧ W.cell? ⟨adS.block, adS.off + 1, none⟩ = some (.int .i64 hw)) (by kernel_rfl) ?_ (fun hHeld => ?_)
                · exact HS0.out _ (Below.drew (Below.refl _ _))
                refine tkq (i := 0) (v := ?_) rfl (Or.inl ⟨by rfl, ?_⟩) hHeld ?_; rotate_left; · (intro w h; (try dsimp only at h); go_simp; (try with_reducible rfl))
                (try simp only [Act.put, z1, z2, z3, z4, z5, z6])
                refine tkq (i := 1) (v := ?_) rfl (Or.inl ⟨by rfl, ?_⟩) hHeld ?_; rotate_left; · (intro w h; (try dsimp only at h); go_simp; (try with_reducible rfl))
                (try simp only [Act.put, z1, z2, z3, z4, z5, z6])
                refine tkq (i := 2) (v := ?_) rfl (Or.inl ⟨by rfl, ?_⟩) hHeld ?_; rotate_left; · (intro w h; (try dsimp only at h); go_simp; (try with_reducible rfl))
                (try simp only [Act.put, z1, z2, z3, z4, z5, z6])
                refine tkq (i := 3) (v := ?_) rfl (Or.inl ⟨by rfl, ?_⟩) hHeld ?_; rotate_left; · (intro w h; (try dsimp only at h); go_simp; (try with_reducible rfl))
                (try simp only [Act.put, z1, z2, z3, z4, z5, z6])
                refine tkq (i := 4) (v := ?_) rfl (Or.inl ⟨by rfl, ?_⟩) hHeld ?_; rotate_left; · (intro w h; (try dsimp only at h); go_simp; (try with_reducible rfl))
                (try simp only [Act.put, z1, z2, z3, z4, z5, z6])
                refine tkq (i := 5) (v := ?_) rfl (Or.inl ⟨by rfl, ?_⟩) hHeld ?_; rotate_left; · (intro w h; (try dsimp only at h); go_simp; (try with_reducible rfl))
                (try simp only [Act.put, z1, z2, z3, z4, z5, z6])
                refine wpAnyH_ready (rs := [6]) (by kernel_rfl) (by simp) ?_
                refine AllReadyH.cons rfl (fun K hK => ?_) AllReadyH.nil
                go_simp
                (go_at_call 47; go_split_ands; (with_reducible refine Calls.mono (specSpotOk_any n ((A0, c0), (A1, c1)) ⟨ap, aa, aw⟩ _ ((HR.out.below fb.out).below (by assumption)) HF.out) ?_); rintro e w3 ⟨rfl, b3⟩; rw [HSK.out]; have q3 : Below W0.heap.size W0 w3 := below_more (by assumption) b3; clear b3)
                go_wp2_with fail
                refine hK.out _ _ (HS0.out _ (by assumption)) (fun hHeld => ?_)
                clear hK K
                (try simp only [Act.put, z1, z2, z3, z4, z5, z6])
                refine tkq (i := 7) (v := ?_) rfl (Or.inl ⟨by rfl, ?_⟩) hHeld ?_; rotate_left; · (intro w h; (try dsimp only at h); go_simp; (try with_reducible rfl))
                (try simp only [Act.put, z1, z2, z3, z4, z5, z6])
                refine tkq (i := 8) (v := ?_) rfl (Or.inl ⟨by rfl, ?_⟩) hHeld ?_; rotate_left; · (intro w h; (try dsimp only at h); go_simp; (try with_reducible rfl))
                (try simp only [Act.put, z1, z2, z3, z4, z5, z6])
                refine tkq (i := 9) (v := ?_) rfl (Or.inl ⟨by rfl, ?_⟩) hHeld ?_; rotate_left; · (intro w h; (try dsimp only at h); go_simp; (try with_reducible rfl))
                (try simp only [Act.put, z1, z2, z3, z4, z5, z6])
                refine tkq (i := 10) (v := ?_) rfl (Or.inl ⟨by rfl, ?_⟩) hHeld ?_; rotate_left; · (intro w h; (try dsimp only at h); go_simp; (try with_reducible rfl))
                (try simp only [Act.put, z1, z2, z3, z4, z5, z6])
                refine tkq (i := 11) (v := ?_) rfl (Or.inl ⟨by rfl, ?_⟩) hHeld ?_; rotate_left; · (intro w h; (try dsimp only at h); go_simp; (try with_reducible rfl))
                (try simp only [Act.put, z1, z2, z3, z4, z5, z6])
                refine tkq (i := 12) (v := ?_) rfl (Or.inl ⟨by rfl, ?_⟩) hHeld ?_; rotate_left; · (intro w h; (try dsimp only at h); go_simp; (try with_reducible rfl))
                (try simp only [Act.put, z1, z2, z3, z4, z5, z6])
                refine tkq (i := 13) (v := .bool false) rfl (Or.inl ⟨by rfl, ?_⟩) hHeld ?_
                · (intro w hSw; (try dsimp only at hSw); go_simp; (try simp); (try omega))
                (try simp only [Act.put, z1, z2, z3, z4, z5, z6])
                refine tkq (i := 14) (v := ?_) rfl (Or.inl ⟨by rfl, ?_⟩) hHeld ?_; rotate_left; · (intro w h; (try dsimp only at h); go_simp; (try with_reducible rfl))
                (try simp only [Act.put, z1, z2, z3, z4, z5, z6])
                refine tkq (i := 15) (v := ?_) rfl (Or.inl ⟨by rfl, ?_⟩) hHeld ?_; rotate_left; · (intro w h; (try dsimp only at h); go_simp; (try with_reducible rfl))
                (try simp only [Act.put, z1, z2, z3, z4, z5, z6])
                refine tkq (i := 16) (v := ?_) rfl (Or.inl ⟨by rfl, ?_⟩) hHeld ?_; rotate_left; · (intro w h; (try dsimp only at h); go_simp; (try with_reducible rfl))
                (try simp only [Act.put, z1, z2, z3, z4, z5, z6])
                refine tkq (i := 17) (v := ?_) rfl (Or.inl ⟨by rfl, ?_⟩) hHeld ?_; rotate_left; · (intro w h; (try dsimp only at h); go_simp; (try with_reducible rfl))
                (try simp only [Act.put, z1, z2, z3, z4, z5, z6])
                refine tkq (i := 18) (v := ?_) rfl (Or.inl ⟨by rfl, ?_⟩) hHeld ?_; rotate_left; · (intro w h; (try dsimp only at h); go_simp; (try with_reducible rfl))
                (try simp only [Act.put, z1, z2, z3, z4, z5, z6])
                refine tkq (i := 19) (v := .bool false) rfl (Or.inl ⟨by rfl, ?_⟩) hHeld ?_
                · (intro w hSw; (try dsimp only at hSw); go_simp; (try simp); (try omega))
                (try simp only [Act.put, z1, z2, z3, z4, z5, z6])
                refine tkq (i := 20) (v := ?_) rfl (Or.inl ⟨by rfl, ?_⟩) hHeld ?_; rotate_left; · (intro w h; (try dsimp only at h); go_simp; (try with_reducible rfl))
                (try simp only [Act.put, z1, z2, z3, z4, z5, z6])
                refine tkq (i := 21) (v := ?_) rfl (Or.inl ⟨by rfl, ?_⟩) hHeld ?_; rotate_left; · (intro w h; (try dsimp only at h); go_simp; (try with_reducible rfl))
                (try simp only [Act.put, z1, z2, z3, z4, z5, z6])
                refine tkq (i := 22) (v := ?_) rfl (Or.inl ⟨by rfl, ?_⟩) hHeld ?_; rotate_left; · (intro w h; (try dsimp only at h); go_simp; (try with_reducible rfl))
                (try simp only [Act.put, z1, z2, z3, z4, z5, z6])
                refine tkq (i := 23) (v := ?_) rfl (Or.inl ⟨by rfl, ?_⟩) hHeld ?_; rotate_left; · (intro w h; (try dsimp only at h); go_simp; (try with_reducible rfl))
                (try simp only [Act.put, z1, z2, z3, z4, z5, z6])
                refine wpAnyH_ready (rs := [24]) (by kernel_rfl) (by simp) ?_
                refine AllReadyH.cons rfl (fun K hK => ?_) AllReadyH.nil
                go_simp
                (go_at_call 119; go_split_ands; (with_reducible refine Calls.mono (l1in_is far 0 1000000 _ HIN.out _) ?_); rintro e w4 ⟨rfl, rfl⟩; have q4 := q3)
                go_wp2_with fail
                refine hK.out _ _ (HS0.out _ (by assumption)) (fun hHeld => ?_)
                clear hK K
                (try simp only [Act.put, z1, z2, z3, z4, z5, z6])
                refine tkq (i := 25) (v := ?_) rfl (Or.inl ⟨by rfl, ?_⟩) hHeld ?_; rotate_left; · (intro w h; (try dsimp only at h); go_simp; (try with_reducible rfl))
                (try simp only [Act.put, z1, z2, z3, z4, z5, z6])
                refine tkq (i := 26) (v := ?_) rfl (Or.inl ⟨by rfl, ?_⟩) hHeld ?_; rotate_left; · (intro w h; (try dsimp only at h); go_simp; (try with_reducible rfl))
                (try simp only [Act.put, z1, z2, z3, z4, z5, z6])
                refine tkq (i := 27) (v := ?_) rfl (Or.inl ⟨by rfl, ?_⟩) hHeld ?_; rotate_left; · (intro w h; (try dsimp only at h); go_simp; (try with_reducible rfl))
                (try simp only [Act.put, z1, z2, z3, z4, z5, z6])
                refine tkq (i := 28) (v := ?_) rfl (Or.inl ⟨by rfl, ?_⟩) hHeld ?_; rotate_left; · (intro w h; (try dsimp only at h); go_simp; (try with_reducible rfl))
                (try simp only [Act.put, z1, z2, z3, z4, z5, z6])
                refine tkq (i := 29) (v := ?_) rfl (Or.inl ⟨by rfl, ?_⟩) hHeld ?_; rotate_left; · (intro w h; (try dsimp only at h); go_simp; (try with_reducible rfl))
                (try simp only [Act.put, z1, z2, z3, z4, z5, z6])
                refine tkq (i := 30) (v := ?_) rfl (Or.inl ⟨by rfl, ?_⟩) hHeld ?_; rotate_left; · (intro w h; (try dsimp only at h); go_simp; (try with_reducible rfl))
                (try simp only [Act.put, z1, z2, z3, z4, z5, z6])
                refine tkq (i := 31) (v := ?_) rfl (Or.inl ⟨by rfl, ?_⟩) hHeld ?_; rotate_left; · (intro w h; (try dsimp only at h); go_simp; (try with_reducible rfl))
                (try simp only [Act.put, z1, z2, z3, z4, z5, z6])
                refine tkq (i := 32) (v := ?_) rfl (Or.inl ⟨by rfl, ?_⟩) hHeld ?_; rotate_left; · (intro w h; (try dsimp only at h); go_simp; (try with_reducible rfl))
                (try simp only [Act.put, z1, z2, z3, z4, z5, z6])
                refine wpAnyH_ready (rs := [33]) (by kernel_rfl) (by simp) ?_
                refine AllReadyH.cons rfl (fun K hK => ?_) AllReadyH.nil
                go_simp
                (go_at_call 152; go_split_ands; (with_reducible refine Calls.mono (l4step_any ⟨ap, aa, aw⟩ _) ?_); rintro e w5 ⟨rfl, b5⟩; have q5 : Below W0.heap.size W0 w5 := below_more q4 b5; clear b5)
                go_wp2_with fail
                refine hK.out _ _ (HS0.out _ (by assumption)) (fun hHeld => ?_)
                clear hK K
                (try simp only [Act.put, z1, z2, z3, z4, z5, z6])
                refine tkq (i := 34) (v := ?_) rfl (Or.inl ⟨by rfl, ?_⟩) hHeld ?_; rotate_left; · (intro w h; (try dsimp only at h); go_simp; (try with_reducible rfl))
                (try simp only [Act.put, z1, z2, z3, z4, z5, z6])
                refine tkq (i := 35) (v := ?_) rfl (Or.inl ⟨by rfl, ?_⟩) hHeld ?_; rotate_left; · (intro w h; (try dsimp only at h); go_simp; (try with_reducible rfl))
                (try simp only [Act.put, z1, z2, z3, z4, z5, z6])
                refine wpAnyH_done (by kernel_rfl) ?_ _
                go_wp2_with fail
                go_ret
                exact ⟨_, rfl, by rw [HV.out]; exact Kd.R_nil .., (by first | (with_reducible exact below_more fb.out (by assumption)) | exact below_drew fb.out)⟩
            · have HV := Aside0.mk (str_head (n := n) (p := ⟨true, far, l, pls⟩) (a := ⟨ap, aa, aw⟩) HLP.out (by simp only; rw [HH.out]; exact fun e => h1 (by injection e)))
              have HS0 : Aside0 (∀ W, Below W0.heap.size W0 W → (Below W0.heap.size W0 W ∧ W.cell? ⟨w.heap.size, 0, none⟩ = some (.slice A0 n.pieces.length c0) ∧ W.cell? ⟨w.heap.size, 1, none⟩ = some (.slice A1 n.joints.length c1) ∧ W.cell? ⟨w.heap.size + 1, 0, none⟩ = some (.bool true) ∧ W.cell? ⟨w.heap.size + 1, 1, none⟩ = some (.int .i64 far) ∧ W.cell? ⟨w.heap.size + 1, 2, none⟩ = some (.slice (some adS) l.length d0) ∧ W.cell? ⟨w.heap.size + 1, 3, none⟩ = some (.slice B1 pls.length d1) ∧ W.cell? ⟨w.heap.size + 1 + 1, 0, none⟩ = some (.int .i64 ap) ∧ W.cell? ⟨w.heap.size + 1 + 1, 1, none⟩ = some (.int .i64 aa) ∧ W.cell? ⟨w.heap.size + 1 + 1, 2, none⟩ = some (.int .i64 aw) ∧ W.cell? adS = some (.int .i64 hp) ∧ W.cell? ⟨adS.block, adS.off + 1, none⟩ = some (.int .i64 hw))) := ⟨fun W hb => ⟨hb, (HN.out.below hb).c 0 _ rfl, (HN.out.below hb).c 1 _ rfl, (HP.out.below hb).c 0 _ rfl, (HP.out.below hb).c 1 _ rfl, (HP.out.below hb).c 2 _ rfl, (HP.out.below hb).c 3 _ rfl, (HS.out.below hb).c 0 _ rfl, (HS.out.below hb).c 1 _ rfl, (HS.out.below hb).c 2 _ rfl, pw_cell_below hb HY0.out, pw_cell_below hb HY1.out⟩⟩
              go_enter Try.func93, Try.ntmps93
              go_wp2_with fail
              rw [← HW.out]
              refine wp_region_held_drew (S := fun W => Below W0.heap.size W0 W ∧ W.cell? ⟨w.heap.size, 0, none⟩ = some (.slice A0 n.pieces.length c0) ∧ W.cell? ⟨w.heap.size, 1, none⟩ = some (.slice A1 n.joints.length c1) ∧ W.cell? ⟨w.heap.size + 1, 0, none⟩ = some (.bool true) ∧ W.cell? ⟨w.heap.size + 1, 1, none⟩ = some (.int .i64 far) ∧ W.cell? ⟨w.heap.size + 1, 2, none⟩ = some (.slice (some adS) l.length d0) ∧ W.cell? ⟨w.heap.size + 1, 3, none⟩ = some (.slice B1 pls.length d1) ∧ W.cell? ⟨w.heap.size + 1 + 1, 0, none⟩ = some (.int .i64 ap) ∧ W.cell? ⟨w.heap.size + 1 + 1, 1, none⟩ = some (.int .i64 aa) ∧ W.cell? ⟨w.heap.size + 1 + 1, 2, none⟩ = some (.int .i64 aw) ∧ W.cell? adS = some (.int .i64 hp) ∧ W.cell? ⟨adS.block, adS.off + 1, none⟩ = some (.int .i64 hw)) (by kernel_rfl) ?_ (fun hHeld => ?_)
              · exact HS0.out _ (Below.drew (Below.refl _ _))
              refine tkq (i := 0) (v := ?_) rfl (Or.inl ⟨by rfl, ?_⟩) hHeld ?_; rotate_left; · (intro w h; (try dsimp only at h); go_simp; (try with_reducible rfl))
              (try simp only [Act.put, z1, z2, z3, z4, z5, z6])
              refine tkq (i := 1) (v := ?_) rfl (Or.inl ⟨by rfl, ?_⟩) hHeld ?_; rotate_left; · (intro w h; (try dsimp only at h); go_simp; (try with_reducible rfl))
              (try simp only [Act.put, z1, z2, z3, z4, z5, z6])
              refine tkq (i := 2) (v := ?_) rfl (Or.inl ⟨by rfl, ?_⟩) hHeld ?_; rotate_left; · (intro w h; (try dsimp only at h); go_simp; (try with_reducible rfl))
              (try simp only [Act.put, z1, z2, z3, z4, z5, z6])
              refine tkq (i := 3) (v := ?_) rfl (Or.inl ⟨by rfl, ?_⟩) hHeld ?_; rotate_left; · (intro w h; (try dsimp only at h); go_simp; (try with_reducible rfl))
              (try simp only [Act.put, z1, z2, z3, z4, z5, z6])
              refine tkq (i := 4) (v := ?_) rfl (Or.inl ⟨by rfl, ?_⟩) hHeld ?_; rotate_left; · (intro w h; (try dsimp only at h); go_simp; (try with_reducible rfl))
              (try simp only [Act.put, z1, z2, z3, z4, z5, z6])
              refine tkq (i := 5) (v := ?_) rfl (Or.inl ⟨by rfl, ?_⟩) hHeld ?_; rotate_left; · (intro w h; (try dsimp only at h); go_simp; (try with_reducible rfl))
              (try simp only [Act.put, z1, z2, z3, z4, z5, z6])
              refine wpAnyH_ready (rs := [6]) (by kernel_rfl) (by simp) ?_
              refine AllReadyH.cons rfl (fun K hK => ?_) AllReadyH.nil
              go_simp
              (go_at_call 47; go_split_ands; (with_reducible refine Calls.mono (specSpotOk_any n ((A0, c0), (A1, c1)) ⟨ap, aa, aw⟩ _ ((HR.out.below fb.out).below (by assumption)) HF.out) ?_); rintro e w3 ⟨rfl, b3⟩; rw [HSK.out]; have q3 : Below W0.heap.size W0 w3 := below_more (by assumption) b3; clear b3)
              go_wp2_with fail
              refine hK.out _ _ (HS0.out _ (by assumption)) (fun hHeld => ?_)
              clear hK K
              (try simp only [Act.put, z1, z2, z3, z4, z5, z6])
              refine tkq (i := 7) (v := ?_) rfl (Or.inl ⟨by rfl, ?_⟩) hHeld ?_; rotate_left; · (intro w h; (try dsimp only at h); go_simp; (try with_reducible rfl))
              (try simp only [Act.put, z1, z2, z3, z4, z5, z6])
              refine tkq (i := 8) (v := ?_) rfl (Or.inl ⟨by rfl, ?_⟩) hHeld ?_; rotate_left; · (intro w h; (try dsimp only at h); go_simp; (try with_reducible rfl))
              (try simp only [Act.put, z1, z2, z3, z4, z5, z6])
              refine tkq (i := 9) (v := ?_) rfl (Or.inl ⟨by rfl, ?_⟩) hHeld ?_; rotate_left; · (intro w h; (try dsimp only at h); go_simp; (try with_reducible rfl))
              (try simp only [Act.put, z1, z2, z3, z4, z5, z6])
              refine tkq (i := 10) (v := ?_) rfl (Or.inl ⟨by rfl, ?_⟩) hHeld ?_; rotate_left; · (intro w h; (try dsimp only at h); go_simp; (try with_reducible rfl))
              (try simp only [Act.put, z1, z2, z3, z4, z5, z6])
              refine tkq (i := 11) (v := ?_) rfl (Or.inl ⟨by rfl, ?_⟩) hHeld ?_; rotate_left; · (intro w h; (try dsimp only at h); go_simp; (try with_reducible rfl))
              (try simp only [Act.put, z1, z2, z3, z4, z5, z6])
              refine tkq (i := 12) (v := ?_) rfl (Or.inl ⟨by rfl, ?_⟩) hHeld ?_; rotate_left; · (intro w h; (try dsimp only at h); go_simp; (try with_reducible rfl))
              (try simp only [Act.put, z1, z2, z3, z4, z5, z6])
              refine tkq (i := 13) (v := .bool false) rfl (Or.inl ⟨by rfl, ?_⟩) hHeld ?_
              · (intro w hSw; (try dsimp only at hSw); go_simp; (try simp); (try omega))
              (try simp only [Act.put, z1, z2, z3, z4, z5, z6])
              refine tkq (i := 14) (v := ?_) rfl (Or.inl ⟨by rfl, ?_⟩) hHeld ?_; rotate_left; · (intro w h; (try dsimp only at h); go_simp; (try with_reducible rfl))
              (try simp only [Act.put, z1, z2, z3, z4, z5, z6])
              refine tkq (i := 15) (v := ?_) rfl (Or.inl ⟨by rfl, ?_⟩) hHeld ?_; rotate_left; · (intro w h; (try dsimp only at h); go_simp; (try with_reducible rfl))
              (try simp only [Act.put, z1, z2, z3, z4, z5, z6])
              refine tkq (i := 16) (v := ?_) rfl (Or.inl ⟨by rfl, ?_⟩) hHeld ?_; rotate_left; · (intro w h; (try dsimp only at h); go_simp; (try with_reducible rfl))
              (try simp only [Act.put, z1, z2, z3, z4, z5, z6])
              refine tkq (i := 17) (v := ?_) rfl (Or.inl ⟨by rfl, ?_⟩) hHeld ?_; rotate_left; · (intro w h; (try dsimp only at h); go_simp; (try with_reducible rfl))
              (try simp only [Act.put, z1, z2, z3, z4, z5, z6])
              refine tkq (i := 18) (v := ?_) rfl (Or.inl ⟨by rfl, ?_⟩) hHeld ?_; rotate_left; · (intro w h; (try dsimp only at h); go_simp; (try with_reducible rfl))
              (try simp only [Act.put, z1, z2, z3, z4, z5, z6])
              refine tkq (i := 19) (v := .bool false) rfl (Or.inl ⟨by rfl, ?_⟩) hHeld ?_
              · (intro w hSw; (try dsimp only at hSw); go_simp; (try simp); (try omega))
              (try simp only [Act.put, z1, z2, z3, z4, z5, z6])
              refine tkq (i := 20) (v := ?_) rfl (Or.inl ⟨by rfl, ?_⟩) hHeld ?_; rotate_left; · (intro w h; (try dsimp only at h); go_simp; (try with_reducible rfl))
              (try simp only [Act.put, z1, z2, z3, z4, z5, z6])
              refine tkq (i := 21) (v := ?_) rfl (Or.inl ⟨by rfl, ?_⟩) hHeld ?_; rotate_left; · (intro w h; (try dsimp only at h); go_simp; (try with_reducible rfl))
              (try simp only [Act.put, z1, z2, z3, z4, z5, z6])
              refine tkq (i := 22) (v := ?_) rfl (Or.inl ⟨by rfl, ?_⟩) hHeld ?_; rotate_left; · (intro w h; (try dsimp only at h); go_simp; (try with_reducible rfl))
              (try simp only [Act.put, z1, z2, z3, z4, z5, z6])
              refine tkq (i := 23) (v := ?_) rfl (Or.inl ⟨by rfl, ?_⟩) hHeld ?_; rotate_left; · (intro w h; (try dsimp only at h); go_simp; (try with_reducible rfl))
              (try simp only [Act.put, z1, z2, z3, z4, z5, z6])
              refine wpAnyH_ready (rs := [24]) (by kernel_rfl) (by simp) ?_
              refine AllReadyH.cons rfl (fun K hK => ?_) AllReadyH.nil
              go_simp
              (go_at_call 119; go_split_ands; (with_reducible refine Calls.mono (l1in_is far 0 1000000 _ HIN.out _) ?_); rintro e w4 ⟨rfl, rfl⟩; have q4 := q3)
              go_wp2_with fail
              refine hK.out _ _ (HS0.out _ (by assumption)) (fun hHeld => ?_)
              clear hK K
              (try simp only [Act.put, z1, z2, z3, z4, z5, z6])
              refine tkq (i := 25) (v := ?_) rfl (Or.inl ⟨by rfl, ?_⟩) hHeld ?_; rotate_left; · (intro w h; (try dsimp only at h); go_simp; (try with_reducible rfl))
              (try simp only [Act.put, z1, z2, z3, z4, z5, z6])
              refine tkq (i := 26) (v := ?_) rfl (Or.inl ⟨by rfl, ?_⟩) hHeld ?_; rotate_left; · (intro w h; (try dsimp only at h); go_simp; (try with_reducible rfl))
              (try simp only [Act.put, z1, z2, z3, z4, z5, z6])
              refine tkq (i := 27) (v := ?_) rfl (Or.inl ⟨by rfl, ?_⟩) hHeld ?_; rotate_left; · (intro w h; (try dsimp only at h); go_simp; (try with_reducible rfl))
              (try simp only [Act.put, z1, z2, z3, z4, z5, z6])
              refine tkq (i := 28) (v := ?_) rfl (Or.inl ⟨by rfl, ?_⟩) hHeld ?_; rotate_left; · (intro w h; (try dsimp only at h); go_simp; (try with_reducible rfl))
              (try simp only [Act.put, z1, z2, z3, z4, z5, z6])
              refine tkq (i := 29) (v := ?_) rfl (Or.inl ⟨by rfl, ?_⟩) hHeld ?_; rotate_left; · (intro w h; (try dsimp only at h); go_simp; (try with_reducible rfl))
              (try simp only [Act.put, z1, z2, z3, z4, z5, z6])
              refine tkq (i := 30) (v := ?_) rfl (Or.inl ⟨by rfl, ?_⟩) hHeld ?_; rotate_left; · (intro w h; (try dsimp only at h); go_simp; (try with_reducible rfl))
              (try simp only [Act.put, z1, z2, z3, z4, z5, z6])
              refine tkq (i := 31) (v := ?_) rfl (Or.inl ⟨by rfl, ?_⟩) hHeld ?_; rotate_left; · (intro w h; (try dsimp only at h); go_simp; (try with_reducible rfl))
              (try simp only [Act.put, z1, z2, z3, z4, z5, z6])
              refine tkq (i := 32) (v := ?_) rfl (Or.inl ⟨by rfl, ?_⟩) hHeld ?_; rotate_left; · (intro w h; (try dsimp only at h); go_simp; (try with_reducible rfl))
              (try simp only [Act.put, z1, z2, z3, z4, z5, z6])
              refine wpAnyH_ready (rs := [33]) (by kernel_rfl) (by simp) ?_
              refine AllReadyH.cons rfl (fun K hK => ?_) AllReadyH.nil
              go_simp
              (go_at_call 152; go_split_ands; (with_reducible refine Calls.mono (l4step_any ⟨ap, aa, aw⟩ _) ?_); rintro e w5 ⟨rfl, b5⟩; have q5 : Below W0.heap.size W0 w5 := below_more q4 b5; clear b5)
              go_wp2_with fail
              refine hK.out _ _ (HS0.out _ (by assumption)) (fun hHeld => ?_)
              clear hK K
              (try simp only [Act.put, z1, z2, z3, z4, z5, z6])
              refine tkq (i := 34) (v := ?_) rfl (Or.inl ⟨by rfl, ?_⟩) hHeld ?_; rotate_left; · (intro w h; (try dsimp only at h); go_simp; (try with_reducible rfl))
              (try simp only [Act.put, z1, z2, z3, z4, z5, z6])
              refine tkq (i := 35) (v := ?_) rfl (Or.inl ⟨by rfl, ?_⟩) hHeld ?_; rotate_left; · (intro w h; (try dsimp only at h); go_simp; (try with_reducible rfl))
              (try simp only [Act.put, z1, z2, z3, z4, z5, z6])
              refine wpAnyH_done (by kernel_rfl) ?_ _
              go_wp2_with fail
              go_ret
              exact ⟨_, rfl, by rw [HV.out]; exact Kd.R_nil .., (by first | (with_reducible exact below_more fb.out (by assumption)) | exact below_drew fb.out)⟩
end Go.Proofs.Ytckcffjnffcjcaa
