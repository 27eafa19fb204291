/- Texts of this work, of each what the claim leans on: Str1. No conditions. -/
import Derived.Test.YtckcffjnffcjcaaVSh12
set_option linter.unusedVariables false
set_option linter.unusedSimpArgs false
namespace Go.Proofs.Ytckcffjnffcjcaa
open Go.RowKit Go.Proofs.YtckcffjnffcjcaaW.PrintWords
set_option maxRecDepth 100000 in
set_option maxHeartbeats 64000000 in
theorem implStretch_any (n : NetT) (u : (Option Addr × Nat) × (Option Addr × Nat)) (p : PathT) (up : (Option Addr × Nat) × (Option Addr × Nat)) (a : SpotT) (w : World) (hr : RdNet 67 w u n) (hp : Kd.C kStep w up.1.1 p.steps.length p.steps) (hf : NetFits n) :
    Calls Try.prog 92 #[.agg #[.slice u.1.1 n.pieces.length u.1.2, .slice u.2.1 n.joints.length u.2.2], .agg #[.bool p.ok, .int .i64 p.far, .slice up.1.1 p.steps.length up.1.2, .slice up.2.1 p.lies.length up.2.2], .agg #[.int .i64 a.piece, .int .i64 a.at_, .int .i64 a.way]] w
      fun e w' => ∃ v, e = .returned v ∧ Kd.R kPart 89 w' w.heap.size (fun _ => True) v (stretchV n p a) ∧ Below w.heap.size w w' := by
  have HR := Aside0.mk hr
  have HF := Aside0.mk hf
  have HC := Aside0.mk hp
  have hml := hp.2.1
  clear hr hf hp
  obtain ⟨⟨A0, c0⟩, ⟨A1, c1⟩⟩ := u
  obtain ⟨⟨B0, d0⟩, ⟨B1, d1⟩⟩ := up
  obtain ⟨ap, aa, aw⟩ := a
  obtain ⟨PV, hPV⟩ : ∃ f : PathT → List PartT, f = fun p => stretchV n p ⟨ap, aa, aw⟩ := ⟨_, rfl⟩
  obtain ⟨pok, far, l, pls⟩ := p
  simp only at HC hml ⊢
  obtain ⟨W0, hW0, hN, hP, hS, fb0⟩ := box3S w [.slice A0 n.pieces.length c0, .slice A1 n.joints.length c1] [.bool pok, .int .i64 far, .slice B0 l.length d0, .slice B1 pls.length d1] [.int .i64 ap, .int .i64 aa, .int .i64 aw] 35 108 38
  have fb := Aside0.mk fb0
  have HN := Aside0.mk hN
  have HP := Aside0.mk hP
  have HS := Aside0.mk hS
  have HW := Aside0.mk hW0
  clear hW0 fb0 hN hP hS hPV PV
  cases pok with
  | false =>
    have HV := Aside0.mk (str_ok (n := n) (p := ⟨false, far, l, pls⟩) (a := ⟨ap, aa, aw⟩) rfl)
    have HS0 : Aside0 (∀ W, Below W0.heap.size W0 W → (Below W0.heap.size W0 W ∧ W.cell? ⟨w.heap.size, 0, none⟩ = some (.slice A0 n.pieces.length c0) ∧ W.cell? ⟨w.heap.size, 1, none⟩ = some (.slice A1 n.joints.length c1) ∧ W.cell? ⟨w.heap.size + 1, 0, none⟩ = some (.bool false) ∧ W.cell? ⟨w.heap.size + 1, 1, none⟩ = some (.int .i64 far) ∧ W.cell? ⟨w.heap.size + 1, 2, none⟩ = some (.slice B0 l.length d0) ∧ W.cell? ⟨w.heap.size + 1, 3, none⟩ = some (.slice B1 pls.length d1) ∧ W.cell? ⟨w.heap.size + 1 + 1, 0, none⟩ = some (.int .i64 ap) ∧ W.cell? ⟨w.heap.size + 1 + 1, 1, none⟩ = some (.int .i64 aa) ∧ W.cell? ⟨w.heap.size + 1 + 1, 2, none⟩ = some (.int .i64 aw))) := ⟨fun W hb => ⟨hb, (HN.out.below hb).c 0 _ rfl, (HN.out.below hb).c 1 _ rfl, (HP.out.below hb).c 0 _ rfl, (HP.out.below hb).c 1 _ rfl, (HP.out.below hb).c 2 _ rfl, (HP.out.below hb).c 3 _ rfl, (HS.out.below hb).c 0 _ rfl, (HS.out.below hb).c 1 _ rfl, (HS.out.below hb).c 2 _ rfl⟩⟩
    go_enter Try.func92, Try.ntmps92
    go_wp2_with fail
    rw [← HW.out]
    refine wp_region_held_drew (S := fun W => Below W0.heap.size W0 W ∧ W.cell? ⟨w.heap.size, 0, none⟩ = some (.slice A0 n.pieces.length c0) ∧ W.cell? ⟨w.heap.size, 1, none⟩ = some (.slice A1 n.joints.length c1) ∧ W.cell? ⟨w.heap.size + 1, 0, none⟩ = some (.bool false) ∧ W.cell? ⟨w.heap.size + 1, 1, none⟩ = some (.int .i64 far) ∧ W.cell? ⟨w.heap.size + 1, 2, none⟩ = some (.slice B0 l.length d0) ∧ W.cell? ⟨w.heap.size + 1, 3, none⟩ = some (.slice B1 pls.length d1) ∧ W.cell? ⟨w.heap.size + 1 + 1, 0, none⟩ = some (.int .i64 ap) ∧ W.cell? ⟨w.heap.size + 1 + 1, 1, none⟩ = some (.int .i64 aa) ∧ W.cell? ⟨w.heap.size + 1 + 1, 2, none⟩ = some (.int .i64 aw)) (by kernel_rfl) ?_ (fun hHeld => ?_)
    · exact HS0.out _ (Below.drew (Below.refl _ _))
    refine tkq (i := 0) (v := ?_) rfl (Or.inl ⟨by rfl, ?_⟩) hHeld ?_; rotate_left; · (intro w h; (try dsimp only at h); go_simp; (try with_reducible rfl))
    (try simp only [Act.put, z1, z2, z3, z4, z5, z6])
    refine tkq (i := 1) (v := ?_) rfl (Or.inl ⟨by rfl, ?_⟩) hHeld ?_; rotate_left; · (intro w h; (try dsimp only at h); go_simp; (try with_reducible rfl))
    (try simp only [Act.put, z1, z2, z3, z4, z5, z6])
    refine tkq (i := 2) (v := ?_) rfl (Or.inl ⟨by rfl, ?_⟩) hHeld ?_; rotate_left; · (intro w h; (try dsimp only at h); go_simp; (try with_reducible rfl))
    (try simp only [Act.put, z1, z2, z3, z4, z5, z6])
    refine tkq (i := 3) (v := ?_) rfl (Or.inl ⟨by rfl, ?_⟩) hHeld ?_; rotate_left; · (intro w h; (try dsimp only at h); go_simp; (try with_reducible rfl))
    (try simp only [Act.put, z1, z2, z3, z4, z5, z6])
    refine tkq (i := 4) (v := undef) rfl (Or.inr ⟨by rfl, rfl⟩) hHeld ?_
    (try simp only [Act.put, z1, z2, z3, z4, z5, z6])
    refine tkq (i := 5) (v := undef) rfl (Or.inr ⟨by rfl, rfl⟩) hHeld ?_
    (try simp only [Act.put, z1, z2, z3, z4, z5, z6])
    refine tkq (i := 6) (v := undef) rfl (Or.inr ⟨by rfl, rfl⟩) hHeld ?_
    (try simp only [Act.put, z1, z2, z3, z4, z5, z6])
    refine tkq (i := 7) (v := ?_) rfl (Or.inl ⟨by rfl, ?_⟩) hHeld ?_; rotate_left; · (intro w h; (try dsimp only at h); go_simp; (try with_reducible rfl))
    (try simp only [Act.put, z1, z2, z3, z4, z5, z6])
    refine tkq (i := 8) (v := ?_) rfl (Or.inl ⟨by rfl, ?_⟩) hHeld ?_; rotate_left; · (intro w h; (try dsimp only at h); go_simp; (try with_reducible rfl))
    (try simp only [Act.put, z1, z2, z3, z4, z5, z6])
    refine tkq (i := 9) (v := undef) rfl (Or.inr ⟨by rfl, rfl⟩) hHeld ?_
    (try simp only [Act.put, z1, z2, z3, z4, z5, z6])
    refine tkq (i := 10) (v := undef) rfl (Or.inr ⟨by rfl, rfl⟩) hHeld ?_
    (try simp only [Act.put, z1, z2, z3, z4, z5, z6])
    refine tkq (i := 11) (v := undef) rfl (Or.inr ⟨by rfl, rfl⟩) hHeld ?_
    (try simp only [Act.put, z1, z2, z3, z4, z5, z6])
    refine tkq (i := 12) (v := undef) rfl (Or.inr ⟨by rfl, rfl⟩) hHeld ?_
    (try simp only [Act.put, z1, z2, z3, z4, z5, z6])
    refine tkq (i := 13) (v := ?_) rfl (Or.inl ⟨by rfl, ?_⟩) hHeld ?_; rotate_left; · (intro w h; (try dsimp only at h); go_simp; (try with_reducible rfl))
    (try simp only [Act.put, z1, z2, z3, z4, z5, z6])
    refine tkq (i := 14) (v := ?_) rfl (Or.inl ⟨by rfl, ?_⟩) hHeld ?_; rotate_left; · (intro w h; (try dsimp only at h); go_simp; (try with_reducible rfl))
    (try simp only [Act.put, z1, z2, z3, z4, z5, z6])
    refine tkq (i := 15) (v := undef) rfl (Or.inr ⟨by rfl, rfl⟩) hHeld ?_
    (try simp only [Act.put, z1, z2, z3, z4, z5, z6])
    refine tkq (i := 16) (v := undef) rfl (Or.inr ⟨by rfl, rfl⟩) hHeld ?_
    (try simp only [Act.put, z1, z2, z3, z4, z5, z6])
    refine tkq (i := 17) (v := undef) rfl (Or.inr ⟨by rfl, rfl⟩) hHeld ?_
    (try simp only [Act.put, z1, z2, z3, z4, z5, z6])
    refine tkq (i := 18) (v := undef) rfl (Or.inr ⟨by rfl, rfl⟩) hHeld ?_
    (try simp only [Act.put, z1, z2, z3, z4, z5, z6])
    refine tkq (i := 19) (v := ?_) rfl (Or.inl ⟨by rfl, ?_⟩) hHeld ?_; rotate_left; · (intro w h; (try dsimp only at h); go_simp; (try with_reducible rfl))
    (try simp only [Act.put, z1, z2, z3, z4, z5, z6])
    refine tkq (i := 20) (v := ?_) rfl (Or.inl ⟨by rfl, ?_⟩) hHeld ?_; rotate_left; · (intro w h; (try dsimp only at h); go_simp; (try with_reducible rfl))
    (try simp only [Act.put, z1, z2, z3, z4, z5, z6])
    refine tkq (i := 21) (v := undef) rfl (Or.inr ⟨by rfl, rfl⟩) hHeld ?_
    (try simp only [Act.put, z1, z2, z3, z4, z5, z6])
    refine tkq (i := 22) (v := undef) rfl (Or.inr ⟨by rfl, rfl⟩) hHeld ?_
    (try simp only [Act.put, z1, z2, z3, z4, z5, z6])
    refine tkq (i := 23) (v := undef) rfl (Or.inr ⟨by rfl, rfl⟩) hHeld ?_
    (try simp only [Act.put, z1, z2, z3, z4, z5, z6])
    refine tkq (i := 24) (v := undef) rfl (Or.inr ⟨by rfl, rfl⟩) hHeld ?_
    (try simp only [Act.put, z1, z2, z3, z4, z5, z6])
    refine tkq (i := 25) (v := undef) rfl (Or.inr ⟨by rfl, rfl⟩) hHeld ?_
    (try simp only [Act.put, z1, z2, z3, z4, z5, z6])
    refine tkq (i := 26) (v := undef) rfl (Or.inr ⟨by rfl, rfl⟩) hHeld ?_
    (try simp only [Act.put, z1, z2, z3, z4, z5, z6])
    refine tkq (i := 27) (v := undef) rfl (Or.inr ⟨by rfl, rfl⟩) hHeld ?_
    (try simp only [Act.put, z1, z2, z3, z4, z5, z6])
    refine tkq (i := 28) (v := undef) rfl (Or.inr ⟨by rfl, rfl⟩) hHeld ?_
    (try simp only [Act.put, z1, z2, z3, z4, z5, z6])
    refine tkq (i := 29) (v := undef) rfl (Or.inr ⟨by rfl, rfl⟩) hHeld ?_
    (try simp only [Act.put, z1, z2, z3, z4, z5, z6])
    refine tkq (i := 30) (v := undef) rfl (Or.inr ⟨by rfl, rfl⟩) hHeld ?_
    (try simp only [Act.put, z1, z2, z3, z4, z5, z6])
    refine tkq (i := 31) (v := ?_) rfl (Or.inl ⟨by rfl, ?_⟩) hHeld ?_; rotate_left; · (intro w h; (try dsimp only at h); go_simp; (try with_reducible rfl))
    (try simp only [Act.put, z1, z2, z3, z4, z5, z6])
    refine tkq (i := 32) (v := ?_) rfl (Or.inl ⟨by rfl, ?_⟩) hHeld ?_; rotate_left; · (intro w h; (try dsimp only at h); go_simp; (try with_reducible rfl))
    (try simp only [Act.put, z1, z2, z3, z4, z5, z6])
    refine tkq (i := 33) (v := undef) rfl (Or.inr ⟨by rfl, rfl⟩) hHeld ?_
    (try simp only [Act.put, z1, z2, z3, z4, z5, z6])
    refine tkq (i := 34) (v := undef) rfl (Or.inr ⟨by rfl, rfl⟩) hHeld ?_
    (try simp only [Act.put, z1, z2, z3, z4, z5, z6])
    refine tkq (i := 35) (v := undef) rfl (Or.inr ⟨by rfl, rfl⟩) hHeld ?_
    (try simp only [Act.put, z1, z2, z3, z4, z5, z6])
    refine tkq (i := 36) (v := ?_) rfl (Or.inl ⟨by rfl, ?_⟩) hHeld ?_; rotate_left; · (intro w h; (try dsimp only at h); go_simp; (try with_reducible rfl))
    (try simp only [Act.put, z1, z2, z3, z4, z5, z6])
    refine tkq (i := 37) (v := ?_) rfl (Or.inl ⟨by rfl, ?_⟩) hHeld ?_; rotate_left; · (intro w h; (try dsimp only at h); go_simp; (try with_reducible rfl))
    (try simp only [Act.put, z1, z2, z3, z4, z5, z6])
    refine tkq (i := 38) (v := undef) rfl (Or.inr ⟨by rfl, rfl⟩) hHeld ?_
    (try simp only [Act.put, z1, z2, z3, z4, z5, z6])
    refine tkq (i := 39) (v := undef) rfl (Or.inr ⟨by rfl, rfl⟩) hHeld ?_
    (try simp only [Act.put, z1, z2, z3, z4, z5, z6])
    refine tkq (i := 40) (v := undef) rfl (Or.inr ⟨by rfl, rfl⟩) hHeld ?_
    (try simp only [Act.put, z1, z2, z3, z4, z5, z6])
    refine tkq (i := 41) (v := ?_) rfl (Or.inl ⟨by rfl, ?_⟩) hHeld ?_; rotate_left; · (intro w h; (try dsimp only at h); go_simp; (try with_reducible rfl))
    (try simp only [Act.put, z1, z2, z3, z4, z5, z6])
    refine wpAnyH_done (by kernel_rfl) ?_ _
    go_wp2_with fail
    go_ret
    exact ⟨_, rfl, by rw [HV.out]; exact Kd.R_nil .., (by first | (with_reducible exact below_more fb.out (by assumption)) | exact below_drew fb.out)⟩
  | true =>
    cases hg : netGood n with
    | false =>
      have HGD := Aside0.mk hg
      have HV := Aside0.mk (str_good (p := ⟨true, far, l, pls⟩) (a := ⟨ap, aa, aw⟩) hg)
      clear hg
      have HS0 : Aside0 (∀ W, Below W0.heap.size W0 W → (Below W0.heap.size W0 W ∧ W.cell? ⟨w.heap.size, 0, none⟩ = some (.slice A0 n.pieces.length c0) ∧ W.cell? ⟨w.heap.size, 1, none⟩ = some (.slice A1 n.joints.length c1) ∧ W.cell? ⟨w.heap.size + 1, 0, none⟩ = some (.bool true) ∧ W.cell? ⟨w.heap.size + 1, 1, none⟩ = some (.int .i64 far) ∧ W.cell? ⟨w.heap.size + 1, 2, none⟩ = some (.slice B0 l.length d0) ∧ W.cell? ⟨w.heap.size + 1, 3, none⟩ = some (.slice B1 pls.length d1) ∧ W.cell? ⟨w.heap.size + 1 + 1, 0, none⟩ = some (.int .i64 ap) ∧ W.cell? ⟨w.heap.size + 1 + 1, 1, none⟩ = some (.int .i64 aa) ∧ W.cell? ⟨w.heap.size + 1 + 1, 2, none⟩ = some (.int .i64 aw))) := ⟨fun W hb => ⟨hb, (HN.out.below hb).c 0 _ rfl, (HN.out.below hb).c 1 _ rfl, (HP.out.below hb).c 0 _ rfl, (HP.out.below hb).c 1 _ rfl, (HP.out.below hb).c 2 _ rfl, (HP.out.below hb).c 3 _ rfl, (HS.out.below hb).c 0 _ rfl, (HS.out.below hb).c 1 _ rfl, (HS.out.below hb).c 2 _ rfl⟩⟩
      go_enter Try.func92, Try.ntmps92
      go_wp2_with fail
      rw [← HW.out]
      refine wp_region_held_drew (S := fun W => Below W0.heap.size W0 W ∧ W.cell? ⟨w.heap.size, 0, none⟩ = some (.slice A0 n.pieces.length c0) ∧ W.cell? ⟨w.heap.size, 1, none⟩ = some (.slice A1 n.joints.length c1) ∧ W.cell? ⟨w.heap.size + 1, 0, none⟩ = some (.bool true) ∧ W.cell? ⟨w.heap.size + 1, 1, none⟩ = some (.int .i64 far) ∧ W.cell? ⟨w.heap.size + 1, 2, none⟩ = some (.slice B0 l.length d0) ∧ W.cell? ⟨w.heap.size + 1, 3, none⟩ = some (.slice B1 pls.length d1) ∧ W.cell? ⟨w.heap.size + 1 + 1, 0, none⟩ = some (.int .i64 ap) ∧ W.cell? ⟨w.heap.size + 1 + 1, 1, none⟩ = some (.int .i64 aa) ∧ W.cell? ⟨w.heap.size + 1 + 1, 2, none⟩ = some (.int .i64 aw)) (by kernel_rfl) ?_ (fun hHeld => ?_)
      · exact HS0.out _ (Below.drew (Below.refl _ _))
      refine tkq (i := 0) (v := ?_) rfl (Or.inl ⟨by rfl, ?_⟩) hHeld ?_; rotate_left; · (intro w h; (try dsimp only at h); go_simp; (try with_reducible rfl))
      (try simp only [Act.put, z1, z2, z3, z4, z5, z6])
      refine tkq (i := 1) (v := ?_) rfl (Or.inl ⟨by rfl, ?_⟩) hHeld ?_; rotate_left; · (intro w h; (try dsimp only at h); go_simp; (try with_reducible rfl))
      (try simp only [Act.put, z1, z2, z3, z4, z5, z6])
      refine tkq (i := 2) (v := ?_) rfl (Or.inl ⟨by rfl, ?_⟩) hHeld ?_; rotate_left; · (intro w h; (try dsimp only at h); go_simp; (try with_reducible rfl))
      (try simp only [Act.put, z1, z2, z3, z4, z5, z6])
      refine tkq (i := 3) (v := ?_) rfl (Or.inl ⟨by rfl, ?_⟩) hHeld ?_; rotate_left; · (intro w h; (try dsimp only at h); go_simp; (try with_reducible rfl))
      (try simp only [Act.put, z1, z2, z3, z4, z5, z6])
      refine tkq (i := 4) (v := ?_) rfl (Or.inl ⟨by rfl, ?_⟩) hHeld ?_; rotate_left; · (intro w h; (try dsimp only at h); go_simp; (try with_reducible rfl))
      (try simp only [Act.put, z1, z2, z3, z4, z5, z6])
      refine wpAnyH_ready (rs := [5]) (by kernel_rfl) (by simp) ?_
      refine AllReadyH.cons rfl (fun K hK => ?_) AllReadyH.nil
      go_simp
      (go_at_call 130; go_split_ands; (with_reducible refine Calls.mono (good_any n ((A0, c0), (A1, c1)) _ ((HR.out.below fb.out).below (by assumption)) HF.out) ?_); rintro e w3 ⟨rfl, b3⟩; rw [HGD.out]; have q3 : Below W0.heap.size W0 w3 := below_more (by assumption) b3; clear b3)
      go_wp2_with fail
      refine hK.out _ _ (HS0.out _ (by assumption)) (fun hHeld => ?_)
      clear hK K
      (try simp only [Act.put, z1, z2, z3, z4, z5, z6])
      refine tkq (i := 6) (v := ?_) rfl (Or.inl ⟨by rfl, ?_⟩) hHeld ?_; rotate_left; · (intro w h; (try dsimp only at h); go_simp; (try with_reducible rfl))
      (try simp only [Act.put, z1, z2, z3, z4, z5, z6])
      refine tkq (i := 7) (v := ?_) rfl (Or.inl ⟨by rfl, ?_⟩) hHeld ?_; rotate_left; · (intro w h; (try dsimp only at h); go_simp; (try with_reducible rfl))
      (try simp only [Act.put, z1, z2, z3, z4, z5, z6])
      refine tkq (i := 8) (v := ?_) rfl (Or.inl ⟨by rfl, ?_⟩) hHeld ?_; rotate_left; · (intro w h; (try dsimp only at h); go_simp; (try with_reducible rfl))
      (try simp only [Act.put, z1, z2, z3, z4, z5, z6])
      refine tkq (i := 9) (v := undef) rfl (Or.inr ⟨by rfl, rfl⟩) hHeld ?_
      (try simp only [Act.put, z1, z2, z3, z4, z5, z6])
      refine tkq (i := 10) (v := undef) rfl (Or.inr ⟨by rfl, rfl⟩) hHeld ?_
      (try simp only [Act.put, z1, z2, z3, z4, z5, z6])
      refine tkq (i := 11) (v := undef) rfl (Or.inr ⟨by rfl, rfl⟩) hHeld ?_
      (try simp only [Act.put, z1, z2, z3, z4, z5, z6])
      refine tkq (i := 12) (v := undef) rfl (Or.inr ⟨by rfl, rfl⟩) hHeld ?_
      (try simp only [Act.put, z1, z2, z3, z4, z5, z6])
      refine tkq (i := 13) (v := ?_) rfl (Or.inl ⟨by rfl, ?_⟩) hHeld ?_; rotate_left; · (intro w h; (try dsimp only at h); go_simp; (try with_reducible rfl))
      (try simp only [Act.put, z1, z2, z3, z4, z5, z6])
      refine tkq (i := 14) (v := ?_) rfl (Or.inl ⟨by rfl, ?_⟩) hHeld ?_; rotate_left; · (intro w h; (try dsimp only at h); go_simp; (try with_reducible rfl))
      (try simp only [Act.put, z1, z2, z3, z4, z5, z6])
      refine tkq (i := 15) (v := undef) rfl (Or.inr ⟨by rfl, rfl⟩) hHeld ?_
      (try simp only [Act.put, z1, z2, z3, z4, z5, z6])
      refine tkq (i := 16) (v := undef) rfl (Or.inr ⟨by rfl, rfl⟩) hHeld ?_
      (try simp only [Act.put, z1, z2, z3, z4, z5, z6])
      refine tkq (i := 17) (v := undef) rfl (Or.inr ⟨by rfl, rfl⟩) hHeld ?_
      (try simp only [Act.put, z1, z2, z3, z4, z5, z6])
      refine tkq (i := 18) (v := undef) rfl (Or.inr ⟨by rfl, rfl⟩) hHeld ?_
      (try simp only [Act.put, z1, z2, z3, z4, z5, z6])
      refine tkq (i := 19) (v := ?_) rfl (Or.inl ⟨by rfl, ?_⟩) hHeld ?_; rotate_left; · (intro w h; (try dsimp only at h); go_simp; (try with_reducible rfl))
      (try simp only [Act.put, z1, z2, z3, z4, z5, z6])
      refine tkq (i := 20) (v := ?_) rfl (Or.inl ⟨by rfl, ?_⟩) hHeld ?_; rotate_left; · (intro w h; (try dsimp only at h); go_simp; (try with_reducible rfl))
      (try simp only [Act.put, z1, z2, z3, z4, z5, z6])
      refine tkq (i := 21) (v := undef) rfl (Or.inr ⟨by rfl, rfl⟩) hHeld ?_
      (try simp only [Act.put, z1, z2, z3, z4, z5, z6])
      refine tkq (i := 22) (v := undef) rfl (Or.inr ⟨by rfl, rfl⟩) hHeld ?_
      (try simp only [Act.put, z1, z2, z3, z4, z5, z6])
      refine tkq (i := 23) (v := undef) rfl (Or.inr ⟨by rfl, rfl⟩) hHeld ?_
      (try simp only [Act.put, z1, z2, z3, z4, z5, z6])
      refine tkq (i := 24) (v := undef) rfl (Or.inr ⟨by rfl, rfl⟩) hHeld ?_
      (try simp only [Act.put, z1, z2, z3, z4, z5, z6])
      refine tkq (i := 25) (v := undef) rfl (Or.inr ⟨by rfl, rfl⟩) hHeld ?_
      (try simp only [Act.put, z1, z2, z3, z4, z5, z6])
      refine tkq (i := 26) (v := undef) rfl (Or.inr ⟨by rfl, rfl⟩) hHeld ?_
      (try simp only [Act.put, z1, z2, z3, z4, z5, z6])
      refine tkq (i := 27) (v := undef) rfl (Or.inr ⟨by rfl, rfl⟩) hHeld ?_
      (try simp only [Act.put, z1, z2, z3, z4, z5, z6])
      refine tkq (i := 28) (v := undef) rfl (Or.inr ⟨by rfl, rfl⟩) hHeld ?_
      (try simp only [Act.put, z1, z2, z3, z4, z5, z6])
      refine tkq (i := 29) (v := undef) rfl (Or.inr ⟨by rfl, rfl⟩) hHeld ?_
      (try simp only [Act.put, z1, z2, z3, z4, z5, z6])
      refine tkq (i := 30) (v := undef) rfl (Or.inr ⟨by rfl, rfl⟩) hHeld ?_
      (try simp only [Act.put, z1, z2, z3, z4, z5, z6])
      refine tkq (i := 31) (v := ?_) rfl (Or.inl ⟨by rfl, ?_⟩) hHeld ?_; rotate_left; · (intro w h; (try dsimp only at h); go_simp; (try with_reducible rfl))
      (try simp only [Act.put, z1, z2, z3, z4, z5, z6])
      refine tkq (i := 32) (v := ?_) rfl (Or.inl ⟨by rfl, ?_⟩) hHeld ?_; rotate_left; · (intro w h; (try dsimp only at h); go_simp; (try with_reducible rfl))
      (try simp only [Act.put, z1, z2, z3, z4, z5, z6])
      refine tkq (i := 33) (v := undef) rfl (Or.inr ⟨by rfl, rfl⟩) hHeld ?_
      (try simp only [Act.put, z1, z2, z3, z4, z5, z6])
      refine tkq (i := 34) (v := undef) rfl (Or.inr ⟨by rfl, rfl⟩) hHeld ?_
      (try simp only [Act.put, z1, z2, z3, z4, z5, z6])
      refine tkq (i := 35) (v := undef) rfl (Or.inr ⟨by rfl, rfl⟩) hHeld ?_
      (try simp only [Act.put, z1, z2, z3, z4, z5, z6])
      refine tkq (i := 36) (v := ?_) rfl (Or.inl ⟨by rfl, ?_⟩) hHeld ?_; rotate_left; · (intro w h; (try dsimp only at h); go_simp; (try with_reducible rfl))
      (try simp only [Act.put, z1, z2, z3, z4, z5, z6])
      refine tkq (i := 37) (v := ?_) rfl (Or.inl ⟨by rfl, ?_⟩) hHeld ?_; rotate_left; · (intro w h; (try dsimp only at h); go_simp; (try with_reducible rfl))
      (try simp only [Act.put, z1, z2, z3, z4, z5, z6])
      refine tkq (i := 38) (v := undef) rfl (Or.inr ⟨by rfl, rfl⟩) hHeld ?_
      (try simp only [Act.put, z1, z2, z3, z4, z5, z6])
      refine tkq (i := 39) (v := undef) rfl (Or.inr ⟨by rfl, rfl⟩) hHeld ?_
      (try simp only [Act.put, z1, z2, z3, z4, z5, z6])
      refine tkq (i := 40) (v := undef) rfl (Or.inr ⟨by rfl, rfl⟩) hHeld ?_
      (try simp only [Act.put, z1, z2, z3, z4, z5, z6])
      refine tkq (i := 41) (v := ?_) rfl (Or.inl ⟨by rfl, ?_⟩) hHeld ?_; rotate_left; · (intro w h; (try dsimp only at h); go_simp; (try with_reducible rfl))
      (try simp only [Act.put, z1, z2, z3, z4, z5, z6])
      refine wpAnyH_done (by kernel_rfl) ?_ _
      go_wp2_with fail
      go_ret
      exact ⟨_, rfl, by rw [HV.out]; exact Kd.R_nil .., (by first | (with_reducible exact below_more fb.out (by assumption)) | exact below_drew fb.out)⟩
    | true =>
      have HGD := Aside0.mk hg
      have HG := Aside0.mk (Good.of hg)
      clear hg
      cases hs : spotB n ⟨ap, aa, aw⟩ with
      | false =>
        have HSP := Aside0.mk hs
        have HV := Aside0.mk (str_spot (p := ⟨true, far, l, pls⟩) hs)
        clear hs
        have HS0 : Aside0 (∀ W, Below W0.heap.size W0 W → (Below W0.heap.size W0 W ∧ W.cell? ⟨w.heap.size, 0, none⟩ = some (.slice A0 n.pieces.length c0) ∧ W.cell? ⟨w.heap.size, 1, none⟩ = some (.slice A1 n.joints.length c1) ∧ W.cell? ⟨w.heap.size + 1, 0, none⟩ = some (.bool true) ∧ W.cell? ⟨w.heap.size + 1, 1, none⟩ = some (.int .i64 far) ∧ W.cell? ⟨w.heap.size + 1, 2, none⟩ = some (.slice B0 l.length d0) ∧ W.cell? ⟨w.heap.size + 1, 3, none⟩ = some (.slice B1 pls.length d1) ∧ W.cell? ⟨w.heap.size + 1 + 1, 0, none⟩ = some (.int .i64 ap) ∧ W.cell? ⟨w.heap.size + 1 + 1, 1, none⟩ = some (.int .i64 aa) ∧ W.cell? ⟨w.heap.size + 1 + 1, 2, none⟩ = some (.int .i64 aw))) := ⟨fun W hb => ⟨hb, (HN.out.below hb).c 0 _ rfl, (HN.out.below hb).c 1 _ rfl, (HP.out.below hb).c 0 _ rfl, (HP.out.below hb).c 1 _ rfl, (HP.out.below hb).c 2 _ rfl, (HP.out.below hb).c 3 _ rfl, (HS.out.below hb).c 0 _ rfl, (HS.out.below hb).c 1 _ rfl, (HS.out.below hb).c 2 _ rfl⟩⟩
        go_enter Try.func92, Try.ntmps92
        go_wp2_with fail
        rw [← HW.out]
        refine wp_region_held_drew (S := fun W => Below W0.heap.size W0 W ∧ W.cell? ⟨w.heap.size, 0, none⟩ = some (.slice A0 n.pieces.length c0) ∧ W.cell? ⟨w.heap.size, 1, none⟩ = some (.slice A1 n.joints.length c1) ∧ W.cell? ⟨w.heap.size + 1, 0, none⟩ = some (.bool true) ∧ W.cell? ⟨w.heap.size + 1, 1, none⟩ = some (.int .i64 far) ∧ W.cell? ⟨w.heap.size + 1, 2, none⟩ = some (.slice B0 l.length d0) ∧ W.cell? ⟨w.heap.size + 1, 3, none⟩ = some (.slice B1 pls.length d1) ∧ W.cell? ⟨w.heap.size + 1 + 1, 0, none⟩ = some (.int .i64 ap) ∧ W.cell? ⟨w.heap.size + 1 + 1, 1, none⟩ = some (.int .i64 aa) ∧ W.cell? ⟨w.heap.size + 1 + 1, 2, none⟩ = some (.int .i64 aw)) (by kernel_rfl) ?_ (fun hHeld => ?_)
        · exact HS0.out _ (Below.drew (Below.refl _ _))
        refine tkq (i := 0) (v := ?_) rfl (Or.inl ⟨by rfl, ?_⟩) hHeld ?_; rotate_left; · (intro w h; (try dsimp only at h); go_simp; (try with_reducible rfl))
        (try simp only [Act.put, z1, z2, z3, z4, z5, z6])
        refine tkq (i := 1) (v := ?_) rfl (Or.inl ⟨by rfl, ?_⟩) hHeld ?_; rotate_left; · (intro w h; (try dsimp only at h); go_simp; (try with_reducible rfl))
        (try simp only [Act.put, z1, z2, z3, z4, z5, z6])
        refine tkq (i := 2) (v := ?_) rfl (Or.inl ⟨by rfl, ?_⟩) hHeld ?_; rotate_left; · (intro w h; (try dsimp only at h); go_simp; (try with_reducible rfl))
        (try simp only [Act.put, z1, z2, z3, z4, z5, z6])
        refine tkq (i := 3) (v := ?_) rfl (Or.inl ⟨by rfl, ?_⟩) hHeld ?_; rotate_left; · (intro w h; (try dsimp only at h); go_simp; (try with_reducible rfl))
        (try simp only [Act.put, z1, z2, z3, z4, z5, z6])
        refine tkq (i := 4) (v := ?_) rfl (Or.inl ⟨by rfl, ?_⟩) hHeld ?_; rotate_left; · (intro w h; (try dsimp only at h); go_simp; (try with_reducible rfl))
        (try simp only [Act.put, z1, z2, z3, z4, z5, z6])
        refine wpAnyH_ready (rs := [5]) (by kernel_rfl) (by simp) ?_
        refine AllReadyH.cons rfl (fun K hK => ?_) AllReadyH.nil
        go_simp
        (go_at_call 130; go_split_ands; (with_reducible refine Calls.mono (good_any n ((A0, c0), (A1, c1)) _ ((HR.out.below fb.out).below (by assumption)) HF.out) ?_); rintro e w3 ⟨rfl, b3⟩; rw [HGD.out]; have q3 : Below W0.heap.size W0 w3 := below_more (by assumption) b3; clear b3)
        go_wp2_with fail
        refine hK.out _ _ (HS0.out _ (by assumption)) (fun hHeld => ?_)
        clear hK K
        (try simp only [Act.put, z1, z2, z3, z4, z5, z6])
        refine tkq (i := 6) (v := ?_) rfl (Or.inl ⟨by rfl, ?_⟩) hHeld ?_; rotate_left; · (intro w h; (try dsimp only at h); go_simp; (try with_reducible rfl))
        (try simp only [Act.put, z1, z2, z3, z4, z5, z6])
        refine tkq (i := 7) (v := ?_) rfl (Or.inl ⟨by rfl, ?_⟩) hHeld ?_; rotate_left; · (intro w h; (try dsimp only at h); go_simp; (try with_reducible rfl))
        (try simp only [Act.put, z1, z2, z3, z4, z5, z6])
        refine tkq (i := 8) (v := ?_) rfl (Or.inl ⟨by rfl, ?_⟩) hHeld ?_; rotate_left; · (intro w h; (try dsimp only at h); go_simp; (try with_reducible rfl))
        (try simp only [Act.put, z1, z2, z3, z4, z5, z6])
        refine tkq (i := 9) (v := ?_) rfl (Or.inl ⟨by rfl, ?_⟩) hHeld ?_; rotate_left; · (intro w h; (try dsimp only at h); go_simp; (try with_reducible rfl))
        (try simp only [Act.put, z1, z2, z3, z4, z5, z6])
        refine tkq (i := 10) (v := ?_) rfl (Or.inl ⟨by rfl, ?_⟩) hHeld ?_; rotate_left; · (intro w h; (try dsimp only at h); go_simp; (try with_reducible rfl))
        (try simp only [Act.put, z1, z2, z3, z4, z5, z6])
        refine wpAnyH_ready (rs := [11]) (by kernel_rfl) (by simp) ?_
        refine AllReadyH.cons rfl (fun K hK => ?_) AllReadyH.nil
        go_simp
        (go_at_call 131; go_split_ands; (with_reducible refine Calls.mono (spotOk_any n ((A0, c0), (A1, c1)) ⟨ap, aa, aw⟩ _ ((HR.out.below fb.out).below (by assumption))) ?_); rintro e w4 ⟨rfl, b4⟩; rw [HSP.out]; have q4 : Below W0.heap.size W0 w4 := below_more (by assumption) b4; clear b4)
        go_wp2_with fail
        refine hK.out _ _ (HS0.out _ (by assumption)) (fun hHeld => ?_)
        clear hK K
        (try simp only [Act.put, z1, z2, z3, z4, z5, z6])
        refine tkq (i := 12) (v := ?_) rfl (Or.inl ⟨by rfl, ?_⟩) hHeld ?_; rotate_left; · (intro w h; (try dsimp only at h); go_simp; (try with_reducible rfl))
        (try simp only [Act.put, z1, z2, z3, z4, z5, z6])
        refine tkq (i := 13) (v := ?_) rfl (Or.inl ⟨by rfl, ?_⟩) hHeld ?_; rotate_left; · (intro w h; (try dsimp only at h); go_simp; (try with_reducible rfl))
        (try simp only [Act.put, z1, z2, z3, z4, z5, z6])
        refine tkq (i := 14) (v := ?_) rfl (Or.inl ⟨by rfl, ?_⟩) hHeld ?_; rotate_left; · (intro w h; (try dsimp only at h); go_simp; (try with_reducible rfl))
        (try simp only [Act.put, z1, z2, z3, z4, z5, z6])
        refine tkq (i := 15) (v := undef) rfl (Or.inr ⟨by rfl, rfl⟩) hHeld ?_
        (try simp only [Act.put, z1, z2, z3, z4, z5, z6])
        refine tkq (i := 16) (v := undef) rfl (Or.inr ⟨by rfl, rfl⟩) hHeld ?_
        (try simp only [Act.put, z1, z2, z3, z4, z5, z6])
        refine tkq (i := 17) (v := undef) rfl (Or.inr ⟨by rfl, rfl⟩) hHeld ?_
        (try simp only [Act.put, z1, z2, z3, z4, z5, z6])
        refine tkq (i := 18) (v := undef) rfl (Or.inr ⟨by rfl, rfl⟩) hHeld ?_
        (try simp only [Act.put, z1, z2, z3, z4, z5, z6])
        refine tkq (i := 19) (v := ?_) rfl (Or.inl ⟨by rfl, ?_⟩) hHeld ?_; rotate_left; · (intro w h; (try dsimp only at h); go_simp; (try with_reducible rfl))
        (try simp only [Act.put, z1, z2, z3, z4, z5, z6])
        refine tkq (i := 20) (v := ?_) rfl (Or.inl ⟨by rfl, ?_⟩) hHeld ?_; rotate_left; · (intro w h; (try dsimp only at h); go_simp; (try with_reducible rfl))
        (try simp only [Act.put, z1, z2, z3, z4, z5, z6])
        refine tkq (i := 21) (v := undef) rfl (Or.inr ⟨by rfl, rfl⟩) hHeld ?_
        (try simp only [Act.put, z1, z2, z3, z4, z5, z6])
        refine tkq (i := 22) (v := undef) rfl (Or.inr ⟨by rfl, rfl⟩) hHeld ?_
        (try simp only [Act.put, z1, z2, z3, z4, z5, z6])
        refine tkq (i := 23) (v := undef) rfl (Or.inr ⟨by rfl, rfl⟩) hHeld ?_
        (try simp only [Act.put, z1, z2, z3, z4, z5, z6])
        refine tkq (i := 24) (v := undef) rfl (Or.inr ⟨by rfl, rfl⟩) hHeld ?_
        (try simp only [Act.put, z1, z2, z3, z4, z5, z6])
        refine tkq (i := 25) (v := undef) rfl (Or.inr ⟨by rfl, rfl⟩) hHeld ?_
        (try simp only [Act.put, z1, z2, z3, z4, z5, z6])
        refine tkq (i := 26) (v := undef) rfl (Or.inr ⟨by rfl, rfl⟩) hHeld ?_
        (try simp only [Act.put, z1, z2, z3, z4, z5, z6])
        refine tkq (i := 27) (v := undef) rfl (Or.inr ⟨by rfl, rfl⟩) hHeld ?_
        (try simp only [Act.put, z1, z2, z3, z4, z5, z6])
        refine tkq (i := 28) (v := undef) rfl (Or.inr ⟨by rfl, rfl⟩) hHeld ?_
        (try simp only [Act.put, z1, z2, z3, z4, z5, z6])
        refine tkq (i := 29) (v := undef) rfl (Or.inr ⟨by rfl, rfl⟩) hHeld ?_
        (try simp only [Act.put, z1, z2, z3, z4, z5, z6])
        refine tkq (i := 30) (v := undef) rfl (Or.inr ⟨by rfl, rfl⟩) hHeld ?_
        (try simp only [Act.put, z1, z2, z3, z4, z5, z6])
        refine tkq (i := 31) (v := ?_) rfl (Or.inl ⟨by rfl, ?_⟩) hHeld ?_; rotate_left; · (intro w h; (try dsimp only at h); go_simp; (try with_reducible rfl))
        (try simp only [Act.put, z1, z2, z3, z4, z5, z6])
        refine tkq (i := 32) (v := ?_) rfl (Or.inl ⟨by rfl, ?_⟩) hHeld ?_; rotate_left; · (intro w h; (try dsimp only at h); go_simp; (try with_reducible rfl))
        (try simp only [Act.put, z1, z2, z3, z4, z5, z6])
        refine tkq (i := 33) (v := undef) rfl (Or.inr ⟨by rfl, rfl⟩) hHeld ?_
        (try simp only [Act.put, z1, z2, z3, z4, z5, z6])
        refine tkq (i := 34) (v := undef) rfl (Or.inr ⟨by rfl, rfl⟩) hHeld ?_
        (try simp only [Act.put, z1, z2, z3, z4, z5, z6])
        refine tkq (i := 35) (v := undef) rfl (Or.inr ⟨by rfl, rfl⟩) hHeld ?_
        (try simp only [Act.put, z1, z2, z3, z4, z5, z6])
        refine tkq (i := 36) (v := ?_) rfl (Or.inl ⟨by rfl, ?_⟩) hHeld ?_; rotate_left; · (intro w h; (try dsimp only at h); go_simp; (try with_reducible rfl))
        (try simp only [Act.put, z1, z2, z3, z4, z5, z6])
        refine tkq (i := 37) (v := ?_) rfl (Or.inl ⟨by rfl, ?_⟩) hHeld ?_; rotate_left; · (intro w h; (try dsimp only at h); go_simp; (try with_reducible rfl))
        (try simp only [Act.put, z1, z2, z3, z4, z5, z6])
        refine tkq (i := 38) (v := undef) rfl (Or.inr ⟨by rfl, rfl⟩) hHeld ?_
        (try simp only [Act.put, z1, z2, z3, z4, z5, z6])
        refine tkq (i := 39) (v := undef) rfl (Or.inr ⟨by rfl, rfl⟩) hHeld ?_
        (try simp only [Act.put, z1, z2, z3, z4, z5, z6])
        refine tkq (i := 40) (v := undef) rfl (Or.inr ⟨by rfl, rfl⟩) hHeld ?_
        (try simp only [Act.put, z1, z2, z3, z4, z5, z6])
        refine tkq (i := 41) (v := ?_) rfl (Or.inl ⟨by rfl, ?_⟩) hHeld ?_; rotate_left; · (intro w h; (try dsimp only at h); go_simp; (try with_reducible rfl))
        (try simp only [Act.put, z1, z2, z3, z4, z5, z6])
        refine wpAnyH_done (by kernel_rfl) ?_ _
        go_wp2_with fail
        go_ret
        exact ⟨_, rfl, by rw [HV.out]; exact Kd.R_nil .., (by first | (with_reducible exact below_more fb.out (by assumption)) | exact below_drew fb.out)⟩
      | true =>
        have HSP := Aside0.mk hs
        clear hs
        by_cases hl0 : l.length = 0
        · have HV := Aside0.mk (str_nil (n := n) (p := ⟨true, far, l, pls⟩) (a := ⟨ap, aa, aw⟩) hl0)
          have hl0b : ((l.length : Int) == 0) = true := by simpa using hl0
          clear hl0
          have HS0 : Aside0 (∀ W, Below W0.heap.size W0 W → (Below W0.heap.size W0 W ∧ W.cell? ⟨w.heap.size, 0, none⟩ = some (.slice A0 n.pieces.length c0) ∧ W.cell? ⟨w.heap.size, 1, none⟩ = some (.slice A1 n.joints.length c1) ∧ W.cell? ⟨w.heap.size + 1, 0, none⟩ = some (.bool true) ∧ W.cell? ⟨w.heap.size + 1, 1, none⟩ = some (.int .i64 far) ∧ W.cell? ⟨w.heap.size + 1, 2, none⟩ = some (.slice B0 l.length d0) ∧ W.cell? ⟨w.heap.size + 1, 3, none⟩ = some (.slice B1 pls.length d1) ∧ W.cell? ⟨w.heap.size + 1 + 1, 0, none⟩ = some (.int .i64 ap) ∧ W.cell? ⟨w.heap.size + 1 + 1, 1, none⟩ = some (.int .i64 aa) ∧ W.cell? ⟨w.heap.size + 1 + 1, 2, none⟩ = some (.int .i64 aw))) := ⟨fun W hb => ⟨hb, (HN.out.below hb).c 0 _ rfl, (HN.out.below hb).c 1 _ rfl, (HP.out.below hb).c 0 _ rfl, (HP.out.below hb).c 1 _ rfl, (HP.out.below hb).c 2 _ rfl, (HP.out.below hb).c 3 _ rfl, (HS.out.below hb).c 0 _ rfl, (HS.out.below hb).c 1 _ rfl, (HS.out.below hb).c 2 _ rfl⟩⟩
          go_enter Try.func92, Try.ntmps92
          go_wp2_with fail
          rw [← HW.out]
          refine wp_region_held_drew (S := fun W => Below W0.heap.size W0 W ∧ W.cell? ⟨w.heap.size, 0, none⟩ = some (.slice A0 n.pieces.length c0) ∧ W.cell? ⟨w.heap.size, 1, none⟩ = some (.slice A1 n.joints.length c1) ∧ W.cell? ⟨w.heap.size + 1, 0, none⟩ = some (.bool true) ∧ W.cell? ⟨w.heap.size + 1, 1, none⟩ = some (.int .i64 far) ∧ W.cell? ⟨w.heap.size + 1, 2, none⟩ = some (.slice B0 l.length d0) ∧ W.cell? ⟨w.heap.size + 1, 3, none⟩ = some (.slice B1 pls.length d1) ∧ W.cell? ⟨w.heap.size + 1 + 1, 0, none⟩ = some (.int .i64 ap) ∧ W.cell? ⟨w.heap.size + 1 + 1, 1, none⟩ = some (.int .i64 aa) ∧ W.cell? ⟨w.heap.size + 1 + 1, 2, none⟩ = some (.int .i64 aw)) (by kernel_rfl) ?_ (fun hHeld => ?_)
          · exact HS0.out _ (Below.drew (Below.refl _ _))
          refine tkq (i := 0) (v := ?_) rfl (Or.inl ⟨by rfl, ?_⟩) hHeld ?_; rotate_left; · (intro w h; (try dsimp only at h); go_simp; (try with_reducible rfl))
          (try simp only [Act.put, z1, z2, z3, z4, z5, z6])
          refine tkq (i := 1) (v := ?_) rfl (Or.inl ⟨by rfl, ?_⟩) hHeld ?_; rotate_left; · (intro w h; (try dsimp only at h); go_simp; (try with_reducible rfl))
          (try simp only [Act.put, z1, z2, z3, z4, z5, z6])
          refine tkq (i := 2) (v := ?_) rfl (Or.inl ⟨by rfl, ?_⟩) hHeld ?_; rotate_left; · (intro w h; (try dsimp only at h); go_simp; (try with_reducible rfl))
          (try simp only [Act.put, z1, z2, z3, z4, z5, z6])
          refine tkq (i := 3) (v := ?_) rfl (Or.inl ⟨by rfl, ?_⟩) hHeld ?_; rotate_left; · (intro w h; (try dsimp only at h); go_simp; (try with_reducible rfl))
          (try simp only [Act.put, z1, z2, z3, z4, z5, z6])
          refine tkq (i := 4) (v := ?_) rfl (Or.inl ⟨by rfl, ?_⟩) hHeld ?_; rotate_left; · (intro w h; (try dsimp only at h); go_simp; (try with_reducible rfl))
          (try simp only [Act.put, z1, z2, z3, z4, z5, z6])
          refine wpAnyH_ready (rs := [5]) (by kernel_rfl) (by simp) ?_
          refine AllReadyH.cons rfl (fun K hK => ?_) AllReadyH.nil
          go_simp
          (go_at_call 130; go_split_ands; (with_reducible refine Calls.mono (good_any n ((A0, c0), (A1, c1)) _ ((HR.out.below fb.out).below (by assumption)) HF.out) ?_); rintro e w3 ⟨rfl, b3⟩; rw [HGD.out]; have q3 : Below W0.heap.size W0 w3 := below_more (by assumption) b3; clear b3)
          go_wp2_with fail
          refine hK.out _ _ (HS0.out _ (by assumption)) (fun hHeld => ?_)
          clear hK K
          (try simp only [Act.put, z1, z2, z3, z4, z5, z6])
          refine tkq (i := 6) (v := ?_) rfl (Or.inl ⟨by rfl, ?_⟩) hHeld ?_; rotate_left; · (intro w h; (try dsimp only at h); go_simp; (try with_reducible rfl))
          (try simp only [Act.put, z1, z2, z3, z4, z5, z6])
          refine tkq (i := 7) (v := ?_) rfl (Or.inl ⟨by rfl, ?_⟩) hHeld ?_; rotate_left; · (intro w h; (try dsimp only at h); go_simp; (try with_reducible rfl))
          (try simp only [Act.put, z1, z2, z3, z4, z5, z6])
          refine tkq (i := 8) (v := ?_) rfl (Or.inl ⟨by rfl, ?_⟩) hHeld ?_; rotate_left; · (intro w h; (try dsimp only at h); go_simp; (try with_reducible rfl))
          (try simp only [Act.put, z1, z2, z3, z4, z5, z6])
          refine tkq (i := 9) (v := ?_) rfl (Or.inl ⟨by rfl, ?_⟩) hHeld ?_; rotate_left; · (intro w h; (try dsimp only at h); go_simp; (try with_reducible rfl))
          (try simp only [Act.put, z1, z2, z3, z4, z5, z6])
          refine tkq (i := 10) (v := ?_) rfl (Or.inl ⟨by rfl, ?_⟩) hHeld ?_; rotate_left; · (intro w h; (try dsimp only at h); go_simp; (try with_reducible rfl))
          (try simp only [Act.put, z1, z2, z3, z4, z5, z6])
          refine wpAnyH_ready (rs := [11]) (by kernel_rfl) (by simp) ?_
          refine AllReadyH.cons rfl (fun K hK => ?_) AllReadyH.nil
          go_simp
          (go_at_call 131; go_split_ands; (with_reducible refine Calls.mono (spotOk_any n ((A0, c0), (A1, c1)) ⟨ap, aa, aw⟩ _ ((HR.out.below fb.out).below (by assumption))) ?_); rintro e w4 ⟨rfl, b4⟩; rw [HSP.out]; have q4 : Below W0.heap.size W0 w4 := below_more (by assumption) b4; clear b4)
          go_wp2_with fail
          refine hK.out _ _ (HS0.out _ (by assumption)) (fun hHeld => ?_)
          clear hK K
          (try simp only [Act.put, z1, z2, z3, z4, z5, z6])
          refine tkq (i := 12) (v := ?_) rfl (Or.inl ⟨by rfl, ?_⟩) hHeld ?_; rotate_left; · (intro w h; (try dsimp only at h); go_simp; (try with_reducible rfl))
          (try simp only [Act.put, z1, z2, z3, z4, z5, z6])
          refine tkq (i := 13) (v := ?_) rfl (Or.inl ⟨by rfl, ?_⟩) hHeld ?_; rotate_left; · (intro w h; (try dsimp only at h); go_simp; (try with_reducible rfl))
          (try simp only [Act.put, z1, z2, z3, z4, z5, z6])
          refine tkq (i := 14) (v := ?_) rfl (Or.inl ⟨by rfl, ?_⟩) hHeld ?_; rotate_left; · (intro w h; (try dsimp only at h); go_simp; (try with_reducible rfl))
          (try simp only [Act.put, z1, z2, z3, z4, z5, z6])
          refine tkq (i := 15) (v := ?_) rfl (Or.inl ⟨by rfl, ?_⟩) hHeld ?_; rotate_left; · (intro w h; (try dsimp only at h); go_simp; (try with_reducible rfl))
          (try simp only [Act.put, z1, z2, z3, z4, z5, z6])
          refine tkq (i := 16) (v := ?_) rfl (Or.inl ⟨by rfl, ?_⟩) hHeld ?_; rotate_left; · (intro w h; (try dsimp only at h); go_simp; (try with_reducible rfl))
          (try simp only [Act.put, z1, z2, z3, z4, z5, z6])
          refine tkq (i := 17) (v := ?_) rfl (Or.inl ⟨by rfl, ?_⟩) hHeld ?_; rotate_left; · (intro w h; (try dsimp only at h); go_simp; (try with_reducible rfl))
          (try simp only [Act.put, z1, z2, z3, z4, z5, z6])
          refine tkq (i := 18) (v := ?_) rfl (Or.inl ⟨by rfl, ?_⟩) hHeld ?_; rotate_left; · (intro w h; (try dsimp only at h); go_simp; (try with_reducible rfl))
          (try simp only [Act.put, z1, z2, z3, z4, z5, z6])
          refine tkq (i := 19) (v := ?_) rfl (Or.inl ⟨by rfl, ?_⟩) hHeld ?_; rotate_left; · (intro w h; (try dsimp only at h); go_simp; (try with_reducible rfl))
          (try simp only [Act.put, z1, z2, z3, z4, z5, z6])
          refine tkq (i := 20) (v := ?_) rfl (Or.inl ⟨by rfl, ?_⟩) hHeld ?_; rotate_left; · (intro w h; (try dsimp only at h); go_simp; (try with_reducible rfl))
          (try simp only [Act.put, z1, z2, z3, z4, z5, z6])
          refine tkq (i := 21) (v := undef) rfl (Or.inr ⟨by rfl, rfl⟩) hHeld ?_
          (try simp only [Act.put, z1, z2, z3, z4, z5, z6])
          refine tkq (i := 22) (v := undef) rfl (Or.inr ⟨by rfl, rfl⟩) hHeld ?_
          (try simp only [Act.put, z1, z2, z3, z4, z5, z6])
          refine tkq (i := 23) (v := undef) rfl (Or.inr ⟨by rfl, rfl⟩) hHeld ?_
          (try simp only [Act.put, z1, z2, z3, z4, z5, z6])
          refine tkq (i := 24) (v := undef) rfl (Or.inr ⟨by rfl, rfl⟩) hHeld ?_
          (try simp only [Act.put, z1, z2, z3, z4, z5, z6])
          refine tkq (i := 25) (v := undef) rfl (Or.inr ⟨by rfl, rfl⟩) hHeld ?_
          (try simp only [Act.put, z1, z2, z3, z4, z5, z6])
          refine tkq (i := 26) (v := undef) rfl (Or.inr ⟨by rfl, rfl⟩) hHeld ?_
          (try simp only [Act.put, z1, z2, z3, z4, z5, z6])
          refine tkq (i := 27) (v := undef) rfl (Or.inr ⟨by rfl, rfl⟩) hHeld ?_
          (try simp only [Act.put, z1, z2, z3, z4, z5, z6])
          refine tkq (i := 28) (v := undef) rfl (Or.inr ⟨by rfl, rfl⟩) hHeld ?_
          (try simp only [Act.put, z1, z2, z3, z4, z5, z6])
          refine tkq (i := 29) (v := undef) rfl (Or.inr ⟨by rfl, rfl⟩) hHeld ?_
          (try simp only [Act.put, z1, z2, z3, z4, z5, z6])
          refine tkq (i := 30) (v := undef) rfl (Or.inr ⟨by rfl, rfl⟩) hHeld ?_
          (try simp only [Act.put, z1, z2, z3, z4, z5, z6])
          refine tkq (i := 31) (v := ?_) rfl (Or.inl ⟨by rfl, ?_⟩) hHeld ?_; rotate_left; · (intro w h; (try dsimp only at h); go_simp; (try with_reducible rfl))
          (try simp only [Act.put, z1, z2, z3, z4, z5, z6])
          refine tkq (i := 32) (v := ?_) rfl (Or.inl ⟨by rfl, ?_⟩) hHeld ?_; rotate_left; · (intro w h; (try dsimp only at h); go_simp; (try with_reducible rfl))
          (try simp only [Act.put, z1, z2, z3, z4, z5, z6])
          refine tkq (i := 33) (v := undef) rfl (Or.inr ⟨by rfl, rfl⟩) hHeld ?_
          (try simp only [Act.put, z1, z2, z3, z4, z5, z6])
          refine tkq (i := 34) (v := undef) rfl (Or.inr ⟨by rfl, rfl⟩) hHeld ?_
          (try simp only [Act.put, z1, z2, z3, z4, z5, z6])
          refine tkq (i := 35) (v := undef) rfl (Or.inr ⟨by rfl, rfl⟩) hHeld ?_
          (try simp only [Act.put, z1, z2, z3, z4, z5, z6])
          refine tkq (i := 36) (v := ?_) rfl (Or.inl ⟨by rfl, ?_⟩) hHeld ?_; rotate_left; · (intro w h; (try dsimp only at h); go_simp; (try with_reducible rfl))
          (try simp only [Act.put, z1, z2, z3, z4, z5, z6])
          refine tkq (i := 37) (v := ?_) rfl (Or.inl ⟨by rfl, ?_⟩) hHeld ?_; rotate_left; · (intro w h; (try dsimp only at h); go_simp; (try with_reducible rfl))
          (try simp only [Act.put, z1, z2, z3, z4, z5, z6])
          refine tkq (i := 38) (v := undef) rfl (Or.inr ⟨by rfl, rfl⟩) hHeld ?_
          (try simp only [Act.put, z1, z2, z3, z4, z5, z6])
          refine tkq (i := 39) (v := undef) rfl (Or.inr ⟨by rfl, rfl⟩) hHeld ?_
          (try simp only [Act.put, z1, z2, z3, z4, z5, z6])
          refine tkq (i := 40) (v := undef) rfl (Or.inr ⟨by rfl, rfl⟩) hHeld ?_
          (try simp only [Act.put, z1, z2, z3, z4, z5, z6])
          refine tkq (i := 41) (v := ?_) rfl (Or.inl ⟨by rfl, ?_⟩) hHeld ?_; rotate_left; · (intro w h; (try dsimp only at h); go_simp; (try with_reducible rfl))
          (try simp only [Act.put, z1, z2, z3, z4, z5, z6])
          refine wpAnyH_done (by kernel_rfl) ?_ _
          go_wp2_with fail
          go_ret
          exact ⟨_, rfl, by rw [HV.out]; exact Kd.R_nil .., (by first | (with_reducible exact below_more fb.out (by assumption)) | exact below_drew fb.out)⟩
        · have hl0b : ((l.length : Int) == 0) = false := by simpa using hl0
          have hlp : 0 < l.length := by omega
          have hlp' : (0 : Int) < (l.length : Int) := by omega
          obtain ⟨adS, eS, y0, y1⟩ := at_Step HC.out 0 hlp
          subst eS
          rw [Nat.zero_mul, show adS.add 0 = adS from rfl] at y0 y1
          have HLP := Aside0.mk hlp
          obtain ⟨⟨hp, hw⟩, hh⟩ : ∃ s, s = l.getD 0 default := ⟨_, rfl⟩
          rw [← hh] at y0 y1
          have HH := Aside0.mk hh.symm
          have HY0 := Aside0.mk (pw_cell_below fb.out y0)
          have HY1 := Aside0.mk (pw_cell_below fb.out y1)
          clear hh y0 y1 hl0
          by_cases h1 : hp = ap
          · by_cases h2 : hw = aw
            · by_cases h3 : far < 0
              · have HV := Aside0.mk (str_far (n := n) (p := ⟨true, far, l, pls⟩) (a := ⟨ap, aa, aw⟩) (by simp only; omega))
                obtain rfl := h1.symm
                obtain rfl := h2.symm
                have HS0 : Aside0 (∀ W, Below W0.heap.size W0 W → (Below W0.heap.size W0 W ∧ W.cell? ⟨w.heap.size, 0, none⟩ = some (.slice A0 n.pieces.length c0) ∧ W.cell? ⟨w.heap.size, 1, none⟩ = some (.slice A1 n.joints.length c1) ∧ W.cell? ⟨w.heap.size + 1, 0, none⟩ = some (.bool true) ∧ W.cell? ⟨w.heap.size + 1, 1, none⟩ = some (.int .i64 far) ∧ W.cell? ⟨w.heap.size + 1, 2, none⟩ = some (.slice (some adS) l.length d0) ∧ W.cell? ⟨w.heap.size + 1, 3, none⟩ = some (.slice B1 pls.length d1) ∧ W.cell? ⟨w.heap.size + 1 + 1, 0, none⟩ = some (.int .i64 ap) ∧ W.cell? ⟨w.heap.size + 1 + 1, 1, none⟩ = some (.int .i64 aa) ∧ W.cell? ⟨w.heap.size + 1 + 1, 2, none⟩ = some (.int .i64 aw) ∧ W.cell? adS = some (.int .i64 ap) ∧ W.cell? ⟨adS.block, adS.off + 1, none⟩ = some (.int .i64 aw))) := ⟨fun W hb => ⟨hb, (HN.out.below hb).c 0 _ rfl, (HN.out.below hb).c 1 _ rfl, (HP.out.below hb).c 0 _ rfl, (HP.out.below hb).c 1 _ rfl, (HP.out.below hb).c 2 _ rfl, (HP.out.below hb).c 3 _ rfl, (HS.out.below hb).c 0 _ rfl, (HS.out.below hb).c 1 _ rfl, (HS.out.below hb).c 2 _ rfl, pw_cell_below hb HY0.out, pw_cell_below hb HY1.out⟩⟩
                go_enter Try.func92, Try.ntmps92
                go_wp2_with fail
                rw [← HW.out]
                refine wp_region_held_drew (S := fun W => Below W0.heap.size W0 W ∧ W.cell? ⟨w.heap.size, 0, none⟩ = some (.slice A0 n.pieces.length c0) ∧ W.cell? ⟨w.heap.size, 1, none⟩ = some (.slice A1 n.joints.length c1) ∧ W.cell? ⟨w.heap.size + 1, 0, none⟩ = some (.bool true) ∧ W.cell? ⟨w.heap.size + 1, 1, none⟩ = some (.int .i64 far) ∧ W.cell? ⟨w.heap.size + 1, 2, none⟩ = some (.slice (some adS) l.length d0) ∧ W.cell? ⟨w.heap.size + 1, 3, none⟩ = some (.slice B1 pls.length d1) ∧ W.cell? ⟨w.heap.size + 1 + 1, 0, none⟩ = some (.int .i64 ap) ∧ W.cell? ⟨w.heap.size + 1 + 1, 1, none⟩ = some (.int .i64 aa) ∧ W.cell? ⟨w.heap.size + 1 + 1, 2, none⟩ = some (.int .i64 aw) ∧ W.cell? adS = some (.int .i64 ap) ∧ W.cell? ⟨adS.block, adS.off + 1, none⟩ = some (.int .i64 aw)) (by kernel_rfl) ?_ (fun hHeld => ?_)
                · exact HS0.out _ (Below.drew (Below.refl _ _))
                refine tkq (i := 0) (v := ?_) rfl (Or.inl ⟨by rfl, ?_⟩) hHeld ?_; rotate_left; · (intro w h; (try dsimp only at h); go_simp; (try with_reducible rfl))
                (try simp only [Act.put, z1, z2, z3, z4, z5, z6])
                refine tkq (i := 1) (v := ?_) rfl (Or.inl ⟨by rfl, ?_⟩) hHeld ?_; rotate_left; · (intro w h; (try dsimp only at h); go_simp; (try with_reducible rfl))
                (try simp only [Act.put, z1, z2, z3, z4, z5, z6])
                refine tkq (i := 2) (v := ?_) rfl (Or.inl ⟨by rfl, ?_⟩) hHeld ?_; rotate_left; · (intro w h; (try dsimp only at h); go_simp; (try with_reducible rfl))
                (try simp only [Act.put, z1, z2, z3, z4, z5, z6])
                refine tkq (i := 3) (v := ?_) rfl (Or.inl ⟨by rfl, ?_⟩) hHeld ?_; rotate_left; · (intro w h; (try dsimp only at h); go_simp; (try with_reducible rfl))
                (try simp only [Act.put, z1, z2, z3, z4, z5, z6])
                refine tkq (i := 4) (v := ?_) rfl (Or.inl ⟨by rfl, ?_⟩) hHeld ?_; rotate_left; · (intro w h; (try dsimp only at h); go_simp; (try with_reducible rfl))
                (try simp only [Act.put, z1, z2, z3, z4, z5, z6])
                refine wpAnyH_ready (rs := [5]) (by kernel_rfl) (by simp) ?_
                refine AllReadyH.cons rfl (fun K hK => ?_) AllReadyH.nil
                go_simp
                (go_at_call 130; go_split_ands; (with_reducible refine Calls.mono (good_any n ((A0, c0), (A1, c1)) _ ((HR.out.below fb.out).below (by assumption)) HF.out) ?_); rintro e w3 ⟨rfl, b3⟩; rw [HGD.out]; have q3 : Below W0.heap.size W0 w3 := below_more (by assumption) b3; clear b3)
                go_wp2_with fail
                refine hK.out _ _ (HS0.out _ (by assumption)) (fun hHeld => ?_)
                clear hK K
                (try simp only [Act.put, z1, z2, z3, z4, z5, z6])
                refine tkq (i := 6) (v := ?_) rfl (Or.inl ⟨by rfl, ?_⟩) hHeld ?_; rotate_left; · (intro w h; (try dsimp only at h); go_simp; (try with_reducible rfl))
                (try simp only [Act.put, z1, z2, z3, z4, z5, z6])
                refine tkq (i := 7) (v := ?_) rfl (Or.inl ⟨by rfl, ?_⟩) hHeld ?_; rotate_left; · (intro w h; (try dsimp only at h); go_simp; (try with_reducible rfl))
                (try simp only [Act.put, z1, z2, z3, z4, z5, z6])
                refine tkq (i := 8) (v := ?_) rfl (Or.inl ⟨by rfl, ?_⟩) hHeld ?_; rotate_left; · (intro w h; (try dsimp only at h); go_simp; (try with_reducible rfl))
                (try simp only [Act.put, z1, z2, z3, z4, z5, z6])
                refine tkq (i := 9) (v := ?_) rfl (Or.inl ⟨by rfl, ?_⟩) hHeld ?_; rotate_left; · (intro w h; (try dsimp only at h); go_simp; (try with_reducible rfl))
                (try simp only [Act.put, z1, z2, z3, z4, z5, z6])
                refine tkq (i := 10) (v := ?_) rfl (Or.inl ⟨by rfl, ?_⟩) hHeld ?_; rotate_left; · (intro w h; (try dsimp only at h); go_simp; (try with_reducible rfl))
                (try simp only [Act.put, z1, z2, z3, z4, z5, z6])
                refine wpAnyH_ready (rs := [11]) (by kernel_rfl) (by simp) ?_
                refine AllReadyH.cons rfl (fun K hK => ?_) AllReadyH.nil
                go_simp
                (go_at_call 131; go_split_ands; (with_reducible refine Calls.mono (spotOk_any n ((A0, c0), (A1, c1)) ⟨ap, aa, aw⟩ _ ((HR.out.below fb.out).below (by assumption))) ?_); rintro e w4 ⟨rfl, b4⟩; rw [HSP.out]; have q4 : Below W0.heap.size W0 w4 := below_more (by assumption) b4; clear b4)
                go_wp2_with fail
                refine hK.out _ _ (HS0.out _ (by assumption)) (fun hHeld => ?_)
                clear hK K
                (try simp only [Act.put, z1, z2, z3, z4, z5, z6])
                refine tkq (i := 12) (v := ?_) rfl (Or.inl ⟨by rfl, ?_⟩) hHeld ?_; rotate_left; · (intro w h; (try dsimp only at h); go_simp; (try with_reducible rfl))
                (try simp only [Act.put, z1, z2, z3, z4, z5, z6])
                refine tkq (i := 13) (v := ?_) rfl (Or.inl ⟨by rfl, ?_⟩) hHeld ?_; rotate_left; · (intro w h; (try dsimp only at h); go_simp; (try with_reducible rfl))
                (try simp only [Act.put, z1, z2, z3, z4, z5, z6])
                refine tkq (i := 14) (v := ?_) rfl (Or.inl ⟨by rfl, ?_⟩) hHeld ?_; rotate_left; · (intro w h; (try dsimp only at h); go_simp; (try with_reducible rfl))
                (try simp only [Act.put, z1, z2, z3, z4, z5, z6])
                refine tkq (i := 15) (v := ?_) rfl (Or.inl ⟨by rfl, ?_⟩) hHeld ?_; rotate_left; · (intro w h; (try dsimp only at h); go_simp; (try with_reducible rfl))
                (try simp only [Act.put, z1, z2, z3, z4, z5, z6])
                refine tkq (i := 16) (v := ?_) rfl (Or.inl ⟨by rfl, ?_⟩) hHeld ?_; rotate_left; · (intro w h; (try dsimp only at h); go_simp; (try with_reducible rfl))
                (try simp only [Act.put, z1, z2, z3, z4, z5, z6])
                refine tkq (i := 17) (v := ?_) rfl (Or.inl ⟨by rfl, ?_⟩) hHeld ?_; rotate_left; · (intro w h; (try dsimp only at h); go_simp; (try with_reducible rfl))
                (try simp only [Act.put, z1, z2, z3, z4, z5, z6])
                refine tkq (i := 18) (v := ?_) rfl (Or.inl ⟨by rfl, ?_⟩) hHeld ?_; rotate_left; · (intro w h; (try dsimp only at h); go_simp; (try with_reducible rfl))
                (try simp only [Act.put, z1, z2, z3, z4, z5, z6])
                refine tkq (i := 19) (v := ?_) rfl (Or.inl ⟨by rfl, ?_⟩) hHeld ?_; rotate_left; · (intro w h; (try dsimp only at h); go_simp; (try with_reducible rfl))
                (try simp only [Act.put, z1, z2, z3, z4, z5, z6])
                refine tkq (i := 20) (v := ?_) rfl (Or.inl ⟨by rfl, ?_⟩) hHeld ?_; rotate_left; · (intro w h; (try dsimp only at h); go_simp; (try with_reducible rfl))
                (try simp only [Act.put, z1, z2, z3, z4, z5, z6])
                refine tkq (i := 21) (v := ?_) rfl (Or.inl ⟨by rfl, ?_⟩) hHeld ?_; rotate_left; · (intro w h; (try dsimp only at h); go_simp; (try with_reducible rfl))
                (try simp only [Act.put, z1, z2, z3, z4, z5, z6])
                refine tkq (i := 22) (v := ?_) rfl (Or.inl ⟨by rfl, ?_⟩) hHeld ?_; rotate_left; · (intro w h; (try dsimp only at h); go_simp; (try with_reducible rfl))
                (try simp only [Act.put, z1, z2, z3, z4, z5, z6])
                refine tkq (i := 23) (v := ?_) rfl (Or.inl ⟨by rfl, ?_⟩) hHeld ?_; rotate_left; · (intro w h; (try dsimp only at h); go_simp; (try with_reducible rfl))
                (try simp only [Act.put, z1, z2, z3, z4, z5, z6])
                refine tkq (i := 24) (v := ?_) rfl (Or.inl ⟨by rfl, ?_⟩) hHeld ?_; rotate_left; · (intro w h; (try dsimp only at h); go_simp; (try with_reducible rfl))
                (try simp only [Act.put, z1, z2, z3, z4, z5, z6])
                refine tkq (i := 25) (v := ?_) rfl (Or.inl ⟨by rfl, ?_⟩) hHeld ?_; rotate_left; · (intro w h; (try dsimp only at h); go_simp; (try with_reducible rfl))
                (try simp only [Act.put, z1, z2, z3, z4, z5, z6])
                refine tkq (i := 26) (v := ?_) rfl (Or.inl ⟨by rfl, ?_⟩) hHeld ?_; rotate_left; · (intro w h; (try dsimp only at h); go_simp; (try with_reducible rfl))
                (try simp only [Act.put, z1, z2, z3, z4, z5, z6])
                refine tkq (i := 27) (v := ?_) rfl (Or.inl ⟨by rfl, ?_⟩) hHeld ?_; rotate_left; · (intro w h; (try dsimp only at h); go_simp; (try with_reducible rfl))
                (try simp only [Act.put, z1, z2, z3, z4, z5, z6])
                refine tkq (i := 28) (v := ?_) rfl (Or.inl ⟨by rfl, ?_⟩) hHeld ?_; rotate_left; · (intro w h; (try dsimp only at h); go_simp; (try with_reducible rfl))
                (try simp only [Act.put, z1, z2, z3, z4, z5, z6])
                refine tkq (i := 29) (v := ?_) rfl (Or.inl ⟨by rfl, ?_⟩) hHeld ?_; rotate_left; · (intro w h; (try dsimp only at h); go_simp; (try with_reducible rfl))
                (try simp only [Act.put, z1, z2, z3, z4, z5, z6])
                refine tkq (i := 30) (v := .bool false) rfl (Or.inl ⟨by rfl, ?_⟩) hHeld ?_
                · (intro w hSw; (try dsimp only at hSw); go_simp; (try simp); (try omega))
                (try simp only [Act.put, z1, z2, z3, z4, z5, z6])
                refine tkq (i := 31) (v := ?_) rfl (Or.inl ⟨by rfl, ?_⟩) hHeld ?_; rotate_left; · (intro w h; (try dsimp only at h); go_simp; (try with_reducible rfl))
                (try simp only [Act.put, z1, z2, z3, z4, z5, z6])
                refine tkq (i := 32) (v := ?_) rfl (Or.inl ⟨by rfl, ?_⟩) hHeld ?_; rotate_left; · (intro w h; (try dsimp only at h); go_simp; (try with_reducible rfl))
                (try simp only [Act.put, z1, z2, z3, z4, z5, z6])
                refine tkq (i := 33) (v := ?_) rfl (Or.inl ⟨by rfl, ?_⟩) hHeld ?_; rotate_left; · (intro w h; (try dsimp only at h); go_simp; (try with_reducible rfl))
                (try simp only [Act.put, z1, z2, z3, z4, z5, z6])
                refine tkq (i := 34) (v := ?_) rfl (Or.inl ⟨by rfl, ?_⟩) hHeld ?_; rotate_left; · (intro w h; (try dsimp only at h); go_simp; (try with_reducible rfl))
                (try simp only [Act.put, z1, z2, z3, z4, z5, z6])
                refine tkq (i := 35) (v := ?_) rfl (Or.inl ⟨by rfl, ?_⟩) hHeld ?_; rotate_left; · (intro w h; (try dsimp only at h); go_simp; (try with_reducible rfl))
                (try simp only [Act.put, z1, z2, z3, z4, z5, z6])
                refine tkq (i := 36) (v := ?_) rfl (Or.inl ⟨by rfl, ?_⟩) hHeld ?_; rotate_left; · (intro w h; (try dsimp only at h); go_simp; (try with_reducible rfl))
                (try simp only [Act.put, z1, z2, z3, z4, z5, z6])
                refine tkq (i := 37) (v := ?_) rfl (Or.inl ⟨by rfl, ?_⟩) hHeld ?_; rotate_left; · (intro w h; (try dsimp only at h); go_simp; (try with_reducible rfl))
                (try simp only [Act.put, z1, z2, z3, z4, z5, z6])
                refine tkq (i := 38) (v := undef) rfl (Or.inr ⟨by rfl, rfl⟩) hHeld ?_
                (try simp only [Act.put, z1, z2, z3, z4, z5, z6])
                refine tkq (i := 39) (v := undef) rfl (Or.inr ⟨by rfl, rfl⟩) hHeld ?_
                (try simp only [Act.put, z1, z2, z3, z4, z5, z6])
                refine tkq (i := 40) (v := undef) rfl (Or.inr ⟨by rfl, rfl⟩) hHeld ?_
                (try simp only [Act.put, z1, z2, z3, z4, z5, z6])
                refine tkq (i := 41) (v := ?_) rfl (Or.inl ⟨by rfl, ?_⟩) hHeld ?_; rotate_left; · (intro w h; (try dsimp only at h); go_simp; (try with_reducible rfl))
                (try simp only [Act.put, z1, z2, z3, z4, z5, z6])
                refine wpAnyH_done (by kernel_rfl) ?_ _
                go_wp2_with fail
                go_ret
                exact ⟨_, rfl, by rw [HV.out]; exact Kd.R_nil .., (by first | (with_reducible exact below_more fb.out (by assumption)) | exact below_drew fb.out)⟩
              · by_cases h4 : 1000000 < far
                · have HV := Aside0.mk (str_far (n := n) (p := ⟨true, far, l, pls⟩) (a := ⟨ap, aa, aw⟩) (by simp only; omega))
                  obtain rfl := h1.symm
                  obtain rfl := h2.symm
                  have HS0 : Aside0 (∀ W, Below W0.heap.size W0 W → (Below W0.heap.size W0 W ∧ W.cell? ⟨w.heap.size, 0, none⟩ = some (.slice A0 n.pieces.length c0) ∧ W.cell? ⟨w.heap.size, 1, none⟩ = some (.slice A1 n.joints.length c1) ∧ W.cell? ⟨w.heap.size + 1, 0, none⟩ = some (.bool true) ∧ W.cell? ⟨w.heap.size + 1, 1, none⟩ = some (.int .i64 far) ∧ W.cell? ⟨w.heap.size + 1, 2, none⟩ = some (.slice (some adS) l.length d0) ∧ W.cell? ⟨w.heap.size + 1, 3, none⟩ = some (.slice B1 pls.length d1) ∧ W.cell? ⟨w.heap.size + 1 + 1, 0, none⟩ = some (.int .i64 ap) ∧ W.cell? ⟨w.heap.size + 1 + 1, 1, none⟩ = some (.int .i64 aa) ∧ W.cell? ⟨w.heap.size + 1 + 1, 2, none⟩ = some (.int .i64 aw) ∧ W.cell? adS = some (.int .i64 ap) ∧ W.cell? ⟨adS.block, adS.off + 1, none⟩ = some (.int .i64 aw))) := ⟨fun W hb => ⟨hb, (HN.out.below hb).c 0 _ rfl, (HN.out.below hb).c 1 _ rfl, (HP.out.below hb).c 0 _ rfl, (HP.out.below hb).c 1 _ rfl, (HP.out.below hb).c 2 _ rfl, (HP.out.below hb).c 3 _ rfl, (HS.out.below hb).c 0 _ rfl, (HS.out.below hb).c 1 _ rfl, (HS.out.below hb).c 2 _ rfl, pw_cell_below hb HY0.out, pw_cell_below hb HY1.out⟩⟩
                  go_enter Try.func92, Try.ntmps92
                  go_wp2_with fail
                  rw [← HW.out]
                  refine wp_region_held_drew (S := fun W => Below W0.heap.size W0 W ∧ W.cell? ⟨w.heap.size, 0, none⟩ = some (.slice A0 n.pieces.length c0) ∧ W.cell? ⟨w.heap.size, 1, none⟩ = some (.slice A1 n.joints.length c1) ∧ W.cell? ⟨w.heap.size + 1, 0, none⟩ = some (.bool true) ∧ W.cell? ⟨w.heap.size + 1, 1, none⟩ = some (.int .i64 far) ∧ W.cell? ⟨w.heap.size + 1, 2, none⟩ = some (.slice (some adS) l.length d0) ∧ W.cell? ⟨w.heap.size + 1, 3, none⟩ = some (.slice B1 pls.length d1) ∧ W.cell? ⟨w.heap.size + 1 + 1, 0, none⟩ = some (.int .i64 ap) ∧ W.cell? ⟨w.heap.size + 1 + 1, 1, none⟩ = some (.int .i64 aa) ∧ W.cell? ⟨w.heap.size + 1 + 1, 2, none⟩ = some (.int .i64 aw) ∧ W.cell? adS = some (.int .i64 ap) ∧ W.cell? ⟨adS.block, adS.off + 1, none⟩ = some (.int .i64 aw)) (by kernel_rfl) ?_ (fun hHeld => ?_)
                  · exact HS0.out _ (Below.drew (Below.refl _ _))
                  refine tkq (i := 0) (v := ?_) rfl (Or.inl ⟨by rfl, ?_⟩) hHeld ?_; rotate_left; · (intro w h; (try dsimp only at h); go_simp; (try with_reducible rfl))
                  (try simp only [Act.put, z1, z2, z3, z4, z5, z6])
                  refine tkq (i := 1) (v := ?_) rfl (Or.inl ⟨by rfl, ?_⟩) hHeld ?_; rotate_left; · (intro w h; (try dsimp only at h); go_simp; (try with_reducible rfl))
                  (try simp only [Act.put, z1, z2, z3, z4, z5, z6])
                  refine tkq (i := 2) (v := ?_) rfl (Or.inl ⟨by rfl, ?_⟩) hHeld ?_; rotate_left; · (intro w h; (try dsimp only at h); go_simp; (try with_reducible rfl))
                  (try simp only [Act.put, z1, z2, z3, z4, z5, z6])
                  refine tkq (i := 3) (v := ?_) rfl (Or.inl ⟨by rfl, ?_⟩) hHeld ?_; rotate_left; · (intro w h; (try dsimp only at h); go_simp; (try with_reducible rfl))
                  (try simp only [Act.put, z1, z2, z3, z4, z5, z6])
                  refine tkq (i := 4) (v := ?_) rfl (Or.inl ⟨by rfl, ?_⟩) hHeld ?_; rotate_left; · (intro w h; (try dsimp only at h); go_simp; (try with_reducible rfl))
                  (try simp only [Act.put, z1, z2, z3, z4, z5, z6])
                  refine wpAnyH_ready (rs := [5]) (by kernel_rfl) (by simp) ?_
                  refine AllReadyH.cons rfl (fun K hK => ?_) AllReadyH.nil
                  go_simp
                  (go_at_call 130; go_split_ands; (with_reducible refine Calls.mono (good_any n ((A0, c0), (A1, c1)) _ ((HR.out.below fb.out).below (by assumption)) HF.out) ?_); rintro e w3 ⟨rfl, b3⟩; rw [HGD.out]; have q3 : Below W0.heap.size W0 w3 := below_more (by assumption) b3; clear b3)
                  go_wp2_with fail
                  refine hK.out _ _ (HS0.out _ (by assumption)) (fun hHeld => ?_)
                  clear hK K
                  (try simp only [Act.put, z1, z2, z3, z4, z5, z6])
                  refine tkq (i := 6) (v := ?_) rfl (Or.inl ⟨by rfl, ?_⟩) hHeld ?_; rotate_left; · (intro w h; (try dsimp only at h); go_simp; (try with_reducible rfl))
                  (try simp only [Act.put, z1, z2, z3, z4, z5, z6])
                  refine tkq (i := 7) (v := ?_) rfl (Or.inl ⟨by rfl, ?_⟩) hHeld ?_; rotate_left; · (intro w h; (try dsimp only at h); go_simp; (try with_reducible rfl))
                  (try simp only [Act.put, z1, z2, z3, z4, z5, z6])
                  refine tkq (i := 8) (v := ?_) rfl (Or.inl ⟨by rfl, ?_⟩) hHeld ?_; rotate_left; · (intro w h; (try dsimp only at h); go_simp; (try with_reducible rfl))
                  (try simp only [Act.put, z1, z2, z3, z4, z5, z6])
                  refine tkq (i := 9) (v := ?_) rfl (Or.inl ⟨by rfl, ?_⟩) hHeld ?_; rotate_left; · (intro w h; (try dsimp only at h); go_simp; (try with_reducible rfl))
                  (try simp only [Act.put, z1, z2, z3, z4, z5, z6])
                  refine tkq (i := 10) (v := ?_) rfl (Or.inl ⟨by rfl, ?_⟩) hHeld ?_; rotate_left; · (intro w h; (try dsimp only at h); go_simp; (try with_reducible rfl))
                  (try simp only [Act.put, z1, z2, z3, z4, z5, z6])
                  refine wpAnyH_ready (rs := [11]) (by kernel_rfl) (by simp) ?_
                  refine AllReadyH.cons rfl (fun K hK => ?_) AllReadyH.nil
                  go_simp
                  (go_at_call 131; go_split_ands; (with_reducible refine Calls.mono (spotOk_any n ((A0, c0), (A1, c1)) ⟨ap, aa, aw⟩ _ ((HR.out.below fb.out).below (by assumption))) ?_); rintro e w4 ⟨rfl, b4⟩; rw [HSP.out]; have q4 : Below W0.heap.size W0 w4 := below_more (by assumption) b4; clear b4)
                  go_wp2_with fail
                  refine hK.out _ _ (HS0.out _ (by assumption)) (fun hHeld => ?_)
                  clear hK K
                  (try simp only [Act.put, z1, z2, z3, z4, z5, z6])
                  refine tkq (i := 12) (v := ?_) rfl (Or.inl ⟨by rfl, ?_⟩) hHeld ?_; rotate_left; · (intro w h; (try dsimp only at h); go_simp; (try with_reducible rfl))
                  (try simp only [Act.put, z1, z2, z3, z4, z5, z6])
                  refine tkq (i := 13) (v := ?_) rfl (Or.inl ⟨by rfl, ?_⟩) hHeld ?_; rotate_left; · (intro w h; (try dsimp only at h); go_simp; (try with_reducible rfl))
                  (try simp only [Act.put, z1, z2, z3, z4, z5, z6])
                  refine tkq (i := 14) (v := ?_) rfl (Or.inl ⟨by rfl, ?_⟩) hHeld ?_; rotate_left; · (intro w h; (try dsimp only at h); go_simp; (try with_reducible rfl))
                  (try simp only [Act.put, z1, z2, z3, z4, z5, z6])
                  refine tkq (i := 15) (v := ?_) rfl (Or.inl ⟨by rfl, ?_⟩) hHeld ?_; rotate_left; · (intro w h; (try dsimp only at h); go_simp; (try with_reducible rfl))
                  (try simp only [Act.put, z1, z2, z3, z4, z5, z6])
                  refine tkq (i := 16) (v := ?_) rfl (Or.inl ⟨by rfl, ?_⟩) hHeld ?_; rotate_left; · (intro w h; (try dsimp only at h); go_simp; (try with_reducible rfl))
                  (try simp only [Act.put, z1, z2, z3, z4, z5, z6])
                  refine tkq (i := 17) (v := ?_) rfl (Or.inl ⟨by rfl, ?_⟩) hHeld ?_; rotate_left; · (intro w h; (try dsimp only at h); go_simp; (try with_reducible rfl))
                  (try simp only [Act.put, z1, z2, z3, z4, z5, z6])
                  refine tkq (i := 18) (v := ?_) rfl (Or.inl ⟨by rfl, ?_⟩) hHeld ?_; rotate_left; · (intro w h; (try dsimp only at h); go_simp; (try with_reducible rfl))
                  (try simp only [Act.put, z1, z2, z3, z4, z5, z6])
                  refine tkq (i := 19) (v := ?_) rfl (Or.inl ⟨by rfl, ?_⟩) hHeld ?_; rotate_left; · (intro w h; (try dsimp only at h); go_simp; (try with_reducible rfl))
                  (try simp only [Act.put, z1, z2, z3, z4, z5, z6])
                  refine tkq (i := 20) (v := ?_) rfl (Or.inl ⟨by rfl, ?_⟩) hHeld ?_; rotate_left; · (intro w h; (try dsimp only at h); go_simp; (try with_reducible rfl))
                  (try simp only [Act.put, z1, z2, z3, z4, z5, z6])
                  refine tkq (i := 21) (v := ?_) rfl (Or.inl ⟨by rfl, ?_⟩) hHeld ?_; rotate_left; · (intro w h; (try dsimp only at h); go_simp; (try with_reducible rfl))
                  (try simp only [Act.put, z1, z2, z3, z4, z5, z6])
                  refine tkq (i := 22) (v := ?_) rfl (Or.inl ⟨by rfl, ?_⟩) hHeld ?_; rotate_left; · (intro w h; (try dsimp only at h); go_simp; (try with_reducible rfl))
                  (try simp only [Act.put, z1, z2, z3, z4, z5, z6])
                  refine tkq (i := 23) (v := ?_) rfl (Or.inl ⟨by rfl, ?_⟩) hHeld ?_; rotate_left; · (intro w h; (try dsimp only at h); go_simp; (try with_reducible rfl))
                  (try simp only [Act.put, z1, z2, z3, z4, z5, z6])
                  refine tkq (i := 24) (v := ?_) rfl (Or.inl ⟨by rfl, ?_⟩) hHeld ?_; rotate_left; · (intro w h; (try dsimp only at h); go_simp; (try with_reducible rfl))
                  (try simp only [Act.put, z1, z2, z3, z4, z5, z6])
                  refine tkq (i := 25) (v := ?_) rfl (Or.inl ⟨by rfl, ?_⟩) hHeld ?_; rotate_left; · (intro w h; (try dsimp only at h); go_simp; (try with_reducible rfl))
                  (try simp only [Act.put, z1, z2, z3, z4, z5, z6])
                  refine tkq (i := 26) (v := ?_) rfl (Or.inl ⟨by rfl, ?_⟩) hHeld ?_; rotate_left; · (intro w h; (try dsimp only at h); go_simp; (try with_reducible rfl))
                  (try simp only [Act.put, z1, z2, z3, z4, z5, z6])
                  refine tkq (i := 27) (v := ?_) rfl (Or.inl ⟨by rfl, ?_⟩) hHeld ?_; rotate_left; · (intro w h; (try dsimp only at h); go_simp; (try with_reducible rfl))
                  (try simp only [Act.put, z1, z2, z3, z4, z5, z6])
                  refine tkq (i := 28) (v := ?_) rfl (Or.inl ⟨by rfl, ?_⟩) hHeld ?_; rotate_left; · (intro w h; (try dsimp only at h); go_simp; (try with_reducible rfl))
                  (try simp only [Act.put, z1, z2, z3, z4, z5, z6])
                  refine tkq (i := 29) (v := ?_) rfl (Or.inl ⟨by rfl, ?_⟩) hHeld ?_; rotate_left; · (intro w h; (try dsimp only at h); go_simp; (try with_reducible rfl))
                  (try simp only [Act.put, z1, z2, z3, z4, z5, z6])
                  refine tkq (i := 30) (v := .bool false) rfl (Or.inl ⟨by rfl, ?_⟩) hHeld ?_
                  · (intro w hSw; (try dsimp only at hSw); go_simp; (try simp); (try omega))
                  (try simp only [Act.put, z1, z2, z3, z4, z5, z6])
                  refine tkq (i := 31) (v := ?_) rfl (Or.inl ⟨by rfl, ?_⟩) hHeld ?_; rotate_left; · (intro w h; (try dsimp only at h); go_simp; (try with_reducible rfl))
                  (try simp only [Act.put, z1, z2, z3, z4, z5, z6])
                  refine tkq (i := 32) (v := ?_) rfl (Or.inl ⟨by rfl, ?_⟩) hHeld ?_; rotate_left; · (intro w h; (try dsimp only at h); go_simp; (try with_reducible rfl))
                  (try simp only [Act.put, z1, z2, z3, z4, z5, z6])
                  refine tkq (i := 33) (v := ?_) rfl (Or.inl ⟨by rfl, ?_⟩) hHeld ?_; rotate_left; · (intro w h; (try dsimp only at h); go_simp; (try with_reducible rfl))
                  (try simp only [Act.put, z1, z2, z3, z4, z5, z6])
                  refine tkq (i := 34) (v := ?_) rfl (Or.inl ⟨by rfl, ?_⟩) hHeld ?_; rotate_left; · (intro w h; (try dsimp only at h); go_simp; (try with_reducible rfl))
                  (try simp only [Act.put, z1, z2, z3, z4, z5, z6])
                  refine tkq (i := 35) (v := .bool false) rfl (Or.inl ⟨by rfl, ?_⟩) hHeld ?_
                  · (intro w hSw; (try dsimp only at hSw); go_simp; (try simp); (try omega))
                  (try simp only [Act.put, z1, z2, z3, z4, z5, z6])
                  refine tkq (i := 36) (v := ?_) rfl (Or.inl ⟨by rfl, ?_⟩) hHeld ?_; rotate_left; · (intro w h; (try dsimp only at h); go_simp; (try with_reducible rfl))
                  (try simp only [Act.put, z1, z2, z3, z4, z5, z6])
                  refine tkq (i := 37) (v := ?_) rfl (Or.inl ⟨by rfl, ?_⟩) hHeld ?_; rotate_left; · (intro w h; (try dsimp only at h); go_simp; (try with_reducible rfl))
                  (try simp only [Act.put, z1, z2, z3, z4, z5, z6])
                  refine tkq (i := 38) (v := ?_) rfl (Or.inl ⟨by rfl, ?_⟩) hHeld ?_; rotate_left; · (intro w h; (try dsimp only at h); go_simp; (try with_reducible rfl))
                  (try simp only [Act.put, z1, z2, z3, z4, z5, z6])
                  refine tkq (i := 39) (v := ?_) rfl (Or.inl ⟨by rfl, ?_⟩) hHeld ?_; rotate_left; · (intro w h; (try dsimp only at h); go_simp; (try with_reducible rfl))
                  (try simp only [Act.put, z1, z2, z3, z4, z5, z6])
                  refine tkq (i := 40) (v := ?_) rfl (Or.inl ⟨by rfl, ?_⟩) hHeld ?_; rotate_left; · (intro w h; (try dsimp only at h); go_simp; (try with_reducible rfl))
                  (try simp only [Act.put, z1, z2, z3, z4, z5, z6])
                  refine tkq (i := 41) (v := ?_) rfl (Or.inl ⟨by rfl, ?_⟩) hHeld ?_; rotate_left; · (intro w h; (try dsimp only at h); go_simp; (try with_reducible rfl))
                  (try simp only [Act.put, z1, z2, z3, z4, z5, z6])
                  refine wpAnyH_done (by kernel_rfl) ?_ _
                  go_wp2_with fail
                  go_ret
                  exact ⟨_, rfl, by rw [HV.out]; exact Kd.R_nil .., (by first | (with_reducible exact below_more fb.out (by assumption)) | exact below_drew fb.out)⟩
                · have HH2 := Aside0.mk (show l.getD 0 default = stepOf ⟨ap, aa, aw⟩ by rw [HH.out, h1, h2]; rfl)
                  have HFA := Aside0.mk (show 0 ≤ far ∧ far ≤ 1000000 by omega)
                  obtain rfl := h1.symm
                  obtain rfl := h2.symm
                  have HS0 : Aside0 (∀ W, Below W0.heap.size W0 W → (Below W0.heap.size W0 W ∧ W.cell? ⟨w.heap.size, 0, none⟩ = some (.slice A0 n.pieces.length c0) ∧ W.cell? ⟨w.heap.size, 1, none⟩ = some (.slice A1 n.joints.length c1) ∧ W.cell? ⟨w.heap.size + 1, 0, none⟩ = some (.bool true) ∧ W.cell? ⟨w.heap.size + 1, 1, none⟩ = some (.int .i64 far) ∧ W.cell? ⟨w.heap.size + 1, 2, none⟩ = some (.slice (some adS) l.length d0) ∧ W.cell? ⟨w.heap.size + 1, 3, none⟩ = some (.slice B1 pls.length d1) ∧ W.cell? ⟨w.heap.size + 1 + 1, 0, none⟩ = some (.int .i64 ap) ∧ W.cell? ⟨w.heap.size + 1 + 1, 1, none⟩ = some (.int .i64 aa) ∧ W.cell? ⟨w.heap.size + 1 + 1, 2, none⟩ = some (.int .i64 aw) ∧ W.cell? adS = some (.int .i64 ap) ∧ W.cell? ⟨adS.block, adS.off + 1, none⟩ = some (.int .i64 aw))) := ⟨fun W hb => ⟨hb, (HN.out.below hb).c 0 _ rfl, (HN.out.below hb).c 1 _ rfl, (HP.out.below hb).c 0 _ rfl, (HP.out.below hb).c 1 _ rfl, (HP.out.below hb).c 2 _ rfl, (HP.out.below hb).c 3 _ rfl, (HS.out.below hb).c 0 _ rfl, (HS.out.below hb).c 1 _ rfl, (HS.out.below hb).c 2 _ rfl, pw_cell_below hb HY0.out, pw_cell_below hb HY1.out⟩⟩
                  go_enter Try.func92, Try.ntmps92
                  go_wp2_with fail
                  rw [← HW.out]
                  refine wp_region_held_drew (S := fun W => Below W0.heap.size W0 W ∧ W.cell? ⟨w.heap.size, 0, none⟩ = some (.slice A0 n.pieces.length c0) ∧ W.cell? ⟨w.heap.size, 1, none⟩ = some (.slice A1 n.joints.length c1) ∧ W.cell? ⟨w.heap.size + 1, 0, none⟩ = some (.bool true) ∧ W.cell? ⟨w.heap.size + 1, 1, none⟩ = some (.int .i64 far) ∧ W.cell? ⟨w.heap.size + 1, 2, none⟩ = some (.slice (some adS) l.length d0) ∧ W.cell? ⟨w.heap.size + 1, 3, none⟩ = some (.slice B1 pls.length d1) ∧ W.cell? ⟨w.heap.size + 1 + 1, 0, none⟩ = some (.int .i64 ap) ∧ W.cell? ⟨w.heap.size + 1 + 1, 1, none⟩ = some (.int .i64 aa) ∧ W.cell? ⟨w.heap.size + 1 + 1, 2, none⟩ = some (.int .i64 aw) ∧ W.cell? adS = some (.int .i64 ap) ∧ W.cell? ⟨adS.block, adS.off + 1, none⟩ = some (.int .i64 aw)) (by kernel_rfl) ?_ (fun hHeld => ?_)
                  · exact HS0.out _ (Below.drew (Below.refl _ _))
                  refine tkq (i := 0) (v := ?_) rfl (Or.inl ⟨by rfl, ?_⟩) hHeld ?_; rotate_left; · (intro w h; (try dsimp only at h); go_simp; (try with_reducible rfl))
                  (try simp only [Act.put, z1, z2, z3, z4, z5, z6])
                  refine tkq (i := 1) (v := ?_) rfl (Or.inl ⟨by rfl, ?_⟩) hHeld ?_; rotate_left; · (intro w h; (try dsimp only at h); go_simp; (try with_reducible rfl))
                  (try simp only [Act.put, z1, z2, z3, z4, z5, z6])
                  refine tkq (i := 2) (v := ?_) rfl (Or.inl ⟨by rfl, ?_⟩) hHeld ?_; rotate_left; · (intro w h; (try dsimp only at h); go_simp; (try with_reducible rfl))
                  (try simp only [Act.put, z1, z2, z3, z4, z5, z6])
                  refine tkq (i := 3) (v := ?_) rfl (Or.inl ⟨by rfl, ?_⟩) hHeld ?_; rotate_left; · (intro w h; (try dsimp only at h); go_simp; (try with_reducible rfl))
                  (try simp only [Act.put, z1, z2, z3, z4, z5, z6])
                  refine tkq (i := 4) (v := ?_) rfl (Or.inl ⟨by rfl, ?_⟩) hHeld ?_; rotate_left; · (intro w h; (try dsimp only at h); go_simp; (try with_reducible rfl))
                  (try simp only [Act.put, z1, z2, z3, z4, z5, z6])
                  refine wpAnyH_ready (rs := [5]) (by kernel_rfl) (by simp) ?_
                  refine AllReadyH.cons rfl (fun K hK => ?_) AllReadyH.nil
                  go_simp
                  (go_at_call 130; go_split_ands; (with_reducible refine Calls.mono (good_any n ((A0, c0), (A1, c1)) _ ((HR.out.below fb.out).below (by assumption)) HF.out) ?_); rintro e w3 ⟨rfl, b3⟩; rw [HGD.out]; have q3 : Below W0.heap.size W0 w3 := below_more (by assumption) b3; clear b3)
                  go_wp2_with fail
                  refine hK.out _ _ (HS0.out _ (by assumption)) (fun hHeld => ?_)
                  clear hK K
                  (try simp only [Act.put, z1, z2, z3, z4, z5, z6])
                  refine tkq (i := 6) (v := ?_) rfl (Or.inl ⟨by rfl, ?_⟩) hHeld ?_; rotate_left; · (intro w h; (try dsimp only at h); go_simp; (try with_reducible rfl))
                  (try simp only [Act.put, z1, z2, z3, z4, z5, z6])
                  refine tkq (i := 7) (v := ?_) rfl (Or.inl ⟨by rfl, ?_⟩) hHeld ?_; rotate_left; · (intro w h; (try dsimp only at h); go_simp; (try with_reducible rfl))
                  (try simp only [Act.put, z1, z2, z3, z4, z5, z6])
                  refine tkq (i := 8) (v := ?_) rfl (Or.inl ⟨by rfl, ?_⟩) hHeld ?_; rotate_left; · (intro w h; (try dsimp only at h); go_simp; (try with_reducible rfl))
                  (try simp only [Act.put, z1, z2, z3, z4, z5, z6])
                  refine tkq (i := 9) (v := ?_) rfl (Or.inl ⟨by rfl, ?_⟩) hHeld ?_; rotate_left; · (intro w h; (try dsimp only at h); go_simp; (try with_reducible rfl))
                  (try simp only [Act.put, z1, z2, z3, z4, z5, z6])
                  refine tkq (i := 10) (v := ?_) rfl (Or.inl ⟨by rfl, ?_⟩) hHeld ?_; rotate_left; · (intro w h; (try dsimp only at h); go_simp; (try with_reducible rfl))
                  (try simp only [Act.put, z1, z2, z3, z4, z5, z6])
                  refine wpAnyH_ready (rs := [11]) (by kernel_rfl) (by simp) ?_
                  refine AllReadyH.cons rfl (fun K hK => ?_) AllReadyH.nil
                  go_simp
                  (go_at_call 131; go_split_ands; (with_reducible refine Calls.mono (spotOk_any n ((A0, c0), (A1, c1)) ⟨ap, aa, aw⟩ _ ((HR.out.below fb.out).below (by assumption))) ?_); rintro e w4 ⟨rfl, b4⟩; rw [HSP.out]; have q4 : Below W0.heap.size W0 w4 := below_more (by assumption) b4; clear b4)
                  go_wp2_with fail
                  refine hK.out _ _ (HS0.out _ (by assumption)) (fun hHeld => ?_)
                  clear hK K
                  (try simp only [Act.put, z1, z2, z3, z4, z5, z6])
                  refine tkq (i := 12) (v := ?_) rfl (Or.inl ⟨by rfl, ?_⟩) hHeld ?_; rotate_left; · (intro w h; (try dsimp only at h); go_simp; (try with_reducible rfl))
                  (try simp only [Act.put, z1, z2, z3, z4, z5, z6])
                  refine tkq (i := 13) (v := ?_) rfl (Or.inl ⟨by rfl, ?_⟩) hHeld ?_; rotate_left; · (intro w h; (try dsimp only at h); go_simp; (try with_reducible rfl))
                  (try simp only [Act.put, z1, z2, z3, z4, z5, z6])
                  refine tkq (i := 14) (v := ?_) rfl (Or.inl ⟨by rfl, ?_⟩) hHeld ?_; rotate_left; · (intro w h; (try dsimp only at h); go_simp; (try with_reducible rfl))
                  (try simp only [Act.put, z1, z2, z3, z4, z5, z6])
                  refine tkq (i := 15) (v := ?_) rfl (Or.inl ⟨by rfl, ?_⟩) hHeld ?_; rotate_left; · (intro w h; (try dsimp only at h); go_simp; (try with_reducible rfl))
                  (try simp only [Act.put, z1, z2, z3, z4, z5, z6])
                  refine tkq (i := 16) (v := ?_) rfl (Or.inl ⟨by rfl, ?_⟩) hHeld ?_; rotate_left; · (intro w h; (try dsimp only at h); go_simp; (try with_reducible rfl))
                  (try simp only [Act.put, z1, z2, z3, z4, z5, z6])
                  refine tkq (i := 17) (v := ?_) rfl (Or.inl ⟨by rfl, ?_⟩) hHeld ?_; rotate_left; · (intro w h; (try dsimp only at h); go_simp; (try with_reducible rfl))
                  (try simp only [Act.put, z1, z2, z3, z4, z5, z6])
                  refine tkq (i := 18) (v := ?_) rfl (Or.inl ⟨by rfl, ?_⟩) hHeld ?_; rotate_left; · (intro w h; (try dsimp only at h); go_simp; (try with_reducible rfl))
                  (try simp only [Act.put, z1, z2, z3, z4, z5, z6])
                  refine tkq (i := 19) (v := ?_) rfl (Or.inl ⟨by rfl, ?_⟩) hHeld ?_; rotate_left; · (intro w h; (try dsimp only at h); go_simp; (try with_reducible rfl))
                  (try simp only [Act.put, z1, z2, z3, z4, z5, z6])
                  refine tkq (i := 20) (v := ?_) rfl (Or.inl ⟨by rfl, ?_⟩) hHeld ?_; rotate_left; · (intro w h; (try dsimp only at h); go_simp; (try with_reducible rfl))
                  (try simp only [Act.put, z1, z2, z3, z4, z5, z6])
                  refine tkq (i := 21) (v := ?_) rfl (Or.inl ⟨by rfl, ?_⟩) hHeld ?_; rotate_left; · (intro w h; (try dsimp only at h); go_simp; (try with_reducible rfl))
                  (try simp only [Act.put, z1, z2, z3, z4, z5, z6])
                  refine tkq (i := 22) (v := ?_) rfl (Or.inl ⟨by rfl, ?_⟩) hHeld ?_; rotate_left; · (intro w h; (try dsimp only at h); go_simp; (try with_reducible rfl))
                  (try simp only [Act.put, z1, z2, z3, z4, z5, z6])
                  refine tkq (i := 23) (v := ?_) rfl (Or.inl ⟨by rfl, ?_⟩) hHeld ?_; rotate_left; · (intro w h; (try dsimp only at h); go_simp; (try with_reducible rfl))
                  (try simp only [Act.put, z1, z2, z3, z4, z5, z6])
                  refine tkq (i := 24) (v := ?_) rfl (Or.inl ⟨by rfl, ?_⟩) hHeld ?_; rotate_left; · (intro w h; (try dsimp only at h); go_simp; (try with_reducible rfl))
                  (try simp only [Act.put, z1, z2, z3, z4, z5, z6])
                  refine tkq (i := 25) (v := ?_) rfl (Or.inl ⟨by rfl, ?_⟩) hHeld ?_; rotate_left; · (intro w h; (try dsimp only at h); go_simp; (try with_reducible rfl))
                  (try simp only [Act.put, z1, z2, z3, z4, z5, z6])
                  refine tkq (i := 26) (v := ?_) rfl (Or.inl ⟨by rfl, ?_⟩) hHeld ?_; rotate_left; · (intro w h; (try dsimp only at h); go_simp; (try with_reducible rfl))
                  (try simp only [Act.put, z1, z2, z3, z4, z5, z6])
                  refine tkq (i := 27) (v := ?_) rfl (Or.inl ⟨by rfl, ?_⟩) hHeld ?_; rotate_left; · (intro w h; (try dsimp only at h); go_simp; (try with_reducible rfl))
                  (try simp only [Act.put, z1, z2, z3, z4, z5, z6])
                  refine tkq (i := 28) (v := ?_) rfl (Or.inl ⟨by rfl, ?_⟩) hHeld ?_; rotate_left; · (intro w h; (try dsimp only at h); go_simp; (try with_reducible rfl))
                  (try simp only [Act.put, z1, z2, z3, z4, z5, z6])
                  refine tkq (i := 29) (v := ?_) rfl (Or.inl ⟨by rfl, ?_⟩) hHeld ?_; rotate_left; · (intro w h; (try dsimp only at h); go_simp; (try with_reducible rfl))
                  (try simp only [Act.put, z1, z2, z3, z4, z5, z6])
                  refine tkq (i := 30) (v := .bool false) rfl (Or.inl ⟨by rfl, ?_⟩) hHeld ?_
                  · (intro w hSw; (try dsimp only at hSw); go_simp; (try simp); (try omega))
                  (try simp only [Act.put, z1, z2, z3, z4, z5, z6])
                  refine tkq (i := 31) (v := ?_) rfl (Or.inl ⟨by rfl, ?_⟩) hHeld ?_; rotate_left; · (intro w h; (try dsimp only at h); go_simp; (try with_reducible rfl))
                  (try simp only [Act.put, z1, z2, z3, z4, z5, z6])
                  refine tkq (i := 32) (v := ?_) rfl (Or.inl ⟨by rfl, ?_⟩) hHeld ?_; rotate_left; · (intro w h; (try dsimp only at h); go_simp; (try with_reducible rfl))
                  (try simp only [Act.put, z1, z2, z3, z4, z5, z6])
                  refine tkq (i := 33) (v := ?_) rfl (Or.inl ⟨by rfl, ?_⟩) hHeld ?_; rotate_left; · (intro w h; (try dsimp only at h); go_simp; (try with_reducible rfl))
                  (try simp only [Act.put, z1, z2, z3, z4, z5, z6])
                  refine tkq (i := 34) (v := ?_) rfl (Or.inl ⟨by rfl, ?_⟩) hHeld ?_; rotate_left; · (intro w h; (try dsimp only at h); go_simp; (try with_reducible rfl))
                  (try simp only [Act.put, z1, z2, z3, z4, z5, z6])
                  refine tkq (i := 35) (v := .bool false) rfl (Or.inl ⟨by rfl, ?_⟩) hHeld ?_
                  · (intro w hSw; (try dsimp only at hSw); go_simp; (try simp); (try omega))
                  (try simp only [Act.put, z1, z2, z3, z4, z5, z6])
                  refine tkq (i := 36) (v := ?_) rfl (Or.inl ⟨by rfl, ?_⟩) hHeld ?_; rotate_left; · (intro w h; (try dsimp only at h); go_simp; (try with_reducible rfl))
                  (try simp only [Act.put, z1, z2, z3, z4, z5, z6])
                  refine tkq (i := 37) (v := ?_) rfl (Or.inl ⟨by rfl, ?_⟩) hHeld ?_; rotate_left; · (intro w h; (try dsimp only at h); go_simp; (try with_reducible rfl))
                  (try simp only [Act.put, z1, z2, z3, z4, z5, z6])
                  refine tkq (i := 38) (v := ?_) rfl (Or.inl ⟨by rfl, ?_⟩) hHeld ?_; rotate_left; · (intro w h; (try dsimp only at h); go_simp; (try with_reducible rfl))
                  (try simp only [Act.put, z1, z2, z3, z4, z5, z6])
                  refine tkq (i := 39) (v := ?_) rfl (Or.inl ⟨by rfl, ?_⟩) hHeld ?_; rotate_left; · (intro w h; (try dsimp only at h); go_simp; (try with_reducible rfl))
                  (try simp only [Act.put, z1, z2, z3, z4, z5, z6])
                  refine tkq (i := 40) (v := .bool false) rfl (Or.inl ⟨by rfl, ?_⟩) hHeld ?_
                  · (intro w hSw; (try dsimp only at hSw); go_simp; (try simp); (try omega))
                  (try simp only [Act.put, z1, z2, z3, z4, z5, z6])
                  refine tkq (i := 41) (v := ?_) rfl (Or.inl ⟨by rfl, ?_⟩) hHeld ?_; rotate_left; · (intro w h; (try dsimp only at h); go_simp; (try with_reducible rfl))
                  (try simp only [Act.put, z1, z2, z3, z4, z5, z6])
                  refine wpAnyH_done (by kernel_rfl) ?_ _
                  go_wp2_with fail
                  (with_reducible refine Calls.mono (implPL_any n ((A0, c0), (A1, c1)) (some adS) d0 l _ (HR.out.below (below_more fb.out q4)) HG.out (Kd.C_below HC.out (below_more fb.out q4))) ?_)
                  rintro e w5 ⟨v5, rfl, hv5, b5⟩
                  have q5 : Below W0.heap.size W0 w5 := below_more q4 b5
                  have B5 := Aside0.mk (below_more fb.out q5)
                  have N5 := Aside0.mk (HN.out.below q5)
                  have P5 := Aside0.mk (HP.out.below q5)
                  have S5 := Aside0.mk (HS.out.below q5)
                  have Z5 := Aside0.mk (show W0.heap.size ≤ w5.heap.size from q5.size)
                  clear b5 q5 hv5 q3 q4 hHeld HS0
                  cases hok : plOk n l with
                  | false =>
                    have HV := Aside0.mk (str_lies (n := n) (p := ⟨true, far, l, pls⟩) (a := ⟨ap, aa, aw⟩) hok)
                    clear hok
                    go_wp2_with fail
                    go_ret
                    exact ⟨_, rfl, by rw [HV.out]; exact Kd.R_nil .., B5.out⟩
                  | true =>
                    have HOK := Aside0.mk hok
                    have HSB := Aside0.mk (show stepsB n l = true by unfold plOk at hok; simp only [Bool.and_eq_true] at hok; exact hok.1)
                    have hl4 : l.length ≤ 400 := by
                      have := HSB.out
                      unfold stepsB at this
                      simp only [Bool.and_eq_true, decide_eq_true_eq] at this
                      exact this.1
                    clear hok
                    have p1 := P5.out.c 1 _ rfl; have p2 := P5.out.c 2 _ rfl
                    go_wp2_with fail
                    go_loopw [9, 10, 74] (fun v9 v10 v74 wr => ∃ (i : Nat) (ps : List PartT) (left : Int) (PA : Option Addr) (pc : Nat), v9 = .slice PA ps.length pc ∧ v10 = .int .i64 left ∧ v74 = .int .i64 (i : Int) ∧ i ≤ l.length ∧ Aside0 (SG n far ⟨ap, aa, aw⟩ l i ps left) ∧ Aside0 (Kd.R kPart 89 wr W0.heap.size (fun _ => True) (.slice PA ps.length pc) ps) ∧ Aside0 (Bx wr w.heap.size [.slice A0 n.pieces.length c0, .slice A1 n.joints.length c1]) ∧ Aside0 (Bx wr (w.heap.size + 1 + 1) [.int .i64 ap, .int .i64 aa, .int .i64 aw]) ∧ Aside0 (Below w.heap.size w wr) ∧ W0.heap.size ≤ wr.heap.size) (fun _ _ v74 _ => l.length - (intOf v74).toNat)
                    case atStart => exact ⟨0, [], far, none, 0, rfl, rfl, rfl, Nat.zero_le _, ⟨SG.start HFA.out.1 HFA.out.2⟩, ⟨Kd.R_nil ..⟩, N5, S5, B5, Z5.out⟩
                    case round =>
                      clear p1 p2
                      obtain ⟨i, ps, left, PA, pc, rfl, rfl, rfl, hi, HSG, HO, N6, S6, B6, hz6⟩ := hrel
                      obtain ⟨WO, hWO⟩ : ∃ WO : World, WO = wr := ⟨_, rfl⟩
                      subst hWO
                      by_cases hlt : i < l.length
                      · obtain ⟨adI, eI, y0, y1⟩ := at_Step HC.out i hlt
                        injection eI with eI
                        subst eI
                        replace y0 := pw_cell_below B6.out y0
                        replace y1 := pw_cell_below B6.out y1
                        obtain ⟨hxs, hen⟩ := spotAt_ok HG.out HSP.out HSB.out hlt
                        have hxp := spotAt_piece (n := n) HH2.out (i := i)
                        have hst : stepB n (l.getD i default) = true := by
                          have := HSB.out
                          unfold stepsB at this
                          simp only [Bool.and_eq_true, List.all_eq_true] at this
                          exact this.2 _ (getD_mem l i hlt)
                        have hxe : i ≠ 0 → spotAt n ⟨ap, aa, aw⟩ l i = enterS n (beginS (l.getD i default)) := fun h => by unfold spotAt; rw [if_neg h]
                        have hx0 : i = 0 → spotAt n ⟨ap, aa, aw⟩ l i = ⟨ap, aa, aw⟩ := fun h => by unfold spotAt; rw [if_pos h]
                        obtain ⟨⟨sp, sw⟩, hs⟩ : ∃ s, s = l.getD i default := ⟨_, rfl⟩
                        rw [← hs] at y0 y1 hxp hst hxe hen
                        obtain ⟨⟨xp, xa, xw⟩, hx⟩ : ∃ x, x = spotAt n ⟨ap, aa, aw⟩ l i := ⟨_, rfl⟩
                        rw [← hx] at hxs hxp hxe hx0
                        replace hxp : xp = sp := hxp
                        subst hxp
                        have HX := Aside0.mk hx
                        have HXE := Aside0.mk hxe
                        have HX0 := Aside0.mk hx0
                        have hxb := spotB_iff.1 hxs
                        have hrb := roomS_bd HG.out hxs
                        have hlen := HG.out.len hxb.1 hxb.2.1
                        have hsw := stepB_iff.1 hst
                        simp only at hxb hsw hlen
                        have HST := Aside0.mk hst
                        have HEN := Aside0.mk hen
                        have hneg : IntKind.i64.wrap (-sw) = -sw := wrap64 (by omega) (by omega)
                        obtain ⟨⟨bp, bs⟩, hbe⟩ : ∃ e, e = beginS ⟨xp, sw⟩ := ⟨_, rfl⟩
                        have HLV : Aside0 ((Value.agg #[.int .i64 (lookS ⟨xp, -sw⟩).piece, .int .i64 (lookS ⟨xp, -sw⟩).side]) = (Value.agg #[.int .i64 bp, .int .i64 bs])) := ⟨by
                          have : lookS ⟨xp, -sw⟩ = beginS ⟨xp, sw⟩ := head_begin hst
                          rw [this, ← hbe]⟩
                        have HBE := Aside0.mk hbe
                        have HBP := Aside0.mk (show bp = xp from congrArg EndT.piece hbe)
                        have HXB := Aside0.mk hxb
                        have HRB := Aside0.mk hrb
                        have HLN := Aside0.mk hlen
                        have s6 := S6.out.alloc (.cells #[.int .i64 xp, .int .i64 sw] 85); have s0 := s6.c 0 _ rfl; have s1 := s6.c 1 _ rfl; have s2 := s6.c 2 _ rfl
                        obtain ⟨W2, hW2⟩ : ∃ W2, W2 = (WO.alloc (.cells #[.int .i64 xp, .int .i64 sw] 85)).alloc (.cells #[.int .i64 ap, .int .i64 aa, .int .i64 aw] 38) := ⟨_, rfl⟩
                        have T12 : Aside0 (Bx W2 WO.heap.size [.int .i64 xp, .int .i64 sw]) := ⟨by rw [hW2]; exact (Bx.new WO _ 85).alloc _⟩
                        have T13 : Aside0 (Bx W2 (WO.heap.size + 1) [.int .i64 ap, .int .i64 aa, .int .i64 aw]) := ⟨by
                          have := Bx.new (WO.alloc (.cells #[.int .i64 xp, .int .i64 sw] 85)) [.int .i64 ap, .int .i64 aa, .int .i64 aw] 38
                          rw [hW2]; simpa using this⟩
                        have Q2 : Aside0 (Below WO.heap.size WO W2) := ⟨by rw [hW2]; exact below_two _ _ _⟩
                        have N2 := Aside0.mk (N6.out.below Q2.out)
                        have Z2 : Aside0 (W2.heap.size = WO.heap.size + 1 + 1) := ⟨by rw [hW2]; simp⟩
                        have HW2 := Aside0.mk hW2
                        clear hW2 hs hx hxs hxe hx0 hen hst hxb hrb hlen hbe hsw
                        go_upto_if 81 with (fail)
                        rw [← HW2.out]
                        clear s0 s1 s2 y0 y1 s6
                        go_cut [14] (fun s14 W => Aside0 (Below WO.heap.size WO W) ∧ Aside0 (Bx W (WO.heap.size + 1) [.int .i64 xp, .int .i64 xa, .int .i64 xw]) ∧ Aside0 (Bx W WO.heap.size [.int .i64 xp, .int .i64 sw]))
                        case first =>
                          by_cases hi0 : i = 0
                          · have e := HX0.out hi0
                            injection e with e1 e2 e3
                            subst e1 e2 e3
                            have hgt : ¬ (0 : Int) < (i : Int) := by omega
                            clear hi0
                            go_wp2_with fail
                            go_meet
                            case rel => exact ⟨Q2, T13, T12⟩
                          · have hgt : (0 : Int) < (i : Int) := by omega
                            have HEV : Aside0 ((Value.agg #[.int .i64 (enterS n ⟨bp, bs⟩).piece, .int .i64 (enterS n ⟨bp, bs⟩).at_, .int .i64 (enterS n ⟨bp, bs⟩).way]) = (Value.agg #[.int .i64 xp, .int .i64 xa, .int .i64 xw])) := ⟨by rw [HBE.out, ← HXE.out hi0]⟩
                            have t0 := T12.out.c 0 _ rfl; have t1 := T12.out.c 1 _ rfl
                            go_wp2_with fail
                            (with_reducible refine Calls.mono (looked_any ⟨xp, -sw⟩ _) ?_)
                            rintro e w6 ⟨rfl, b6⟩
                            rw [HLV.out]
                            have T6 := Aside0.mk ((T13.out.below b6).alloc (.cells #[.int .i64 bp, .int .i64 bs] 67))
                            have T62 := Aside0.mk ((T12.out.below b6).alloc (.cells #[.int .i64 bp, .int .i64 bs] 67))
                            have N7 := Aside0.mk ((N2.out.below b6).alloc (.cells #[.int .i64 bp, .int .i64 bs] 67))
                            have Q6 := Aside0.mk (below_alloc (below_more Q2.out b6) (.cells #[.int .i64 bp, .int .i64 bs] 67))
                            clear b6 t0 t1
                            have n0 := N7.out.c 0 _ rfl; have n1 := N7.out.c 1 _ rfl
                            go_wp2_with fail
                            (with_reducible refine Calls.mono (enter_any n ((A0, c0), (A1, c1)) ⟨bp, bs⟩ _ (HR.out.below (below_more B6.out Q6.out)) (by have := HXB.out; have := HBP.out; simp only; omega) (by have := HXB.out; have := HBP.out; simp only; omega)) ?_)
                            rintro e w7 ⟨rfl, b7⟩
                            rw [HEV.out]
                            have T7 := Aside0.mk (T6.out.below b7)
                            have T72 := Aside0.mk (T62.out.below b7)
                            have Q7 := Aside0.mk (below_more Q6.out b7)
                            clear b7 n0 n1
                            have t0 := T7.out.c 0 _ rfl; have t1 := T7.out.c 1 _ rfl; have t2 := T7.out.c 2 _ rfl; have tf0 := T7.out.f 0; have tf1 := T7.out.f 1; have tf2 := T7.out.f 2; have tl := T7.out.lt
                            go_wp2_with fail
                            go_meet
                            case rel =>
                              refine ⟨⟨?_⟩, ⟨((T7.out.set (i := 0) (by simp) _).set (i := 1) (by simp) _).set (i := 2) (by simp) _⟩, ⟨?_⟩⟩
                              · repeat (first | (with_reducible exact Q7.out) | (with_reducible refine below_set ?_ (show WO.heap.size ≤ WO.heap.size + 1 by omega)))
                              · repeat (first | (with_reducible exact T72.out) | (with_reducible refine Bx.far ?_ (by omega) _))
                        case rest =>
                          obtain ⟨QC, T3, T32⟩ := hcut
                          obtain ⟨W3, hW3⟩ : ∃ W3, W3 = wc := ⟨_, rfl⟩
                          subst hW3
                          have N3 := Aside0.mk (N6.out.below QC.out)
                          have B3 := Aside0.mk (below_more B6.out QC.out)
                          have n0 := N3.out.c 0 _ rfl; have n1 := N3.out.c 1 _ rfl; have t0 := T3.out.c 0 _ rfl; have t1 := T3.out.c 1 _ rfl; have t2 := T3.out.c 2 _ rfl
                          go_wp2_with fail
                          (with_reducible refine Calls.mono (room_any n ((A0, c0), (A1, c1)) ⟨xp, xa, xw⟩ _ (HR.out.below B3.out) (by have := HXB.out; simp only; omega) (by have := HXB.out; simp only; omega) (by have := HXB.out; simp only; omega) (by have := HXB.out; simp only; omega) (by have := HLN.out; simp only; omega)) ?_)
                          rintro e w8 ⟨rfl, b8⟩
                          obtain ⟨rm, hrm⟩ : ∃ r, r = roomS n ⟨xp, xa, xw⟩ := ⟨_, rfl⟩
                          obtain ⟨⟨hp2, hs2⟩, hhd⟩ : ∃ e, e = headE ⟨xp, xa, xw⟩ := ⟨_, rfl⟩
                          rw [← hrm, ← hhd]
                          obtain ⟨W4, hW4⟩ : ∃ W4, W4 = w8.alloc (.cells #[.int .i64 hp2, .int .i64 hs2] 67) := ⟨_, rfl⟩
                          have q8 : Below W3.heap.size W3 W4 := by rw [hW4]; exact below_alloc b8 _
                          have Q8 := Aside0.mk (below_more QC.out q8)
                          have N8 := Aside0.mk (N3.out.below q8)
                          have T8 := Aside0.mk (T3.out.below q8)
                          have T82 := Aside0.mk (T32.out.below q8)
                          have B8 := Aside0.mk (below_more B3.out q8)
                          have S8 := Aside0.mk (S6.out.below Q8.out)
                          have O8 := Aside0.mk (Kd.R_below HO.out Q8.out)
                          have HW4 := Aside0.mk hW4
                          have HRM := Aside0.mk hrm
                          have hb := HRB.out
                          rw [← hrm] at hb
                          have HRM2 := Aside0.mk hb
                          clear q8 b8 hW4 hrm hhd hb n0 n1 t0 t1 t2
                          obtain ⟨lg, hlg⟩ : ∃ x, x = legOf n ⟨xp, xa, xw⟩ left := ⟨_, rfl⟩
                          have HLG := Aside0.mk hlg
                          have HMN := Aside0.mk (show lg = min rm left by rw [hlg, HRM.out]; rfl)
                          clear hlg
                          go_upto_region 16 with (fail)
                          rw [← HW4.out]
                          go_cut [15] (fun s15 W => s15 = .int .i64 lg ∧ W = W4)
                          case first =>
                            by_cases hlr : left < rm
                            · have : lg = left := by have := HMN.out; omega
                              subst this
                              go_wp2_with fail
                              go_meet
                              case rel => exact ⟨congrArg (Value.int IntKind.i64) (by omega), rfl⟩
                            · have : lg = rm := by have := HMN.out; omega
                              subst this
                              go_wp2_with fail
                              go_meet
                              case rel => exact ⟨congrArg (Value.int IntKind.i64) (by omega), rfl⟩
                          case rest =>
                            obtain ⟨rfl, rfl⟩ := hcut
                            obtain ⟨W4, hW4⟩ : ∃ W4, W4 = wc := ⟨_, rfl⟩
                            subst hW4
                            have hlb : 0 ≤ lg ∧ lg ≤ 1000000 ∧ lg ≤ left := by have h1 := HMN.out; have h2 := HRM2.out; have h3 := HSG.out.l0; have h4 := HSG.out.l1; omega
                            have HNX := Aside0.mk (HSG.out.next hlt HX.out (by rw [← HRM.out]; exact HRM2.out.1))
                            rw [← HLG.out] at HNX
                            obtain ⟨y, hy⟩ : ∃ y, y = xa + lg * xw := ⟨_, rfl⟩
                            have hmul : -1000000 ≤ lg * xw ∧ lg * xw ≤ 1000000 := by
                              rcases HXB.out.2.2.1 with h | h <;> rw [h] <;> omega
                            obtain ⟨m, hm⟩ : ∃ m, m = lg * xw := ⟨_, rfl⟩
                            rw [← hm] at hy hmul
                            have hw1 : IntKind.i64.wrap (lg * xw) = m := by rw [← hm]; exact wrap64 (by omega) (by omega)
                            have hw2 : IntKind.i64.wrap (xa + m) = y := by rw [← hy]; have h1 := HXB.out; have h2 := HLN.out; exact wrap64 (by omega) (by omega)
                            have hw3 : IntKind.i64.wrap (left - lg) = left - lg := by have h3 := HSG.out.l0; have h4 := HSG.out.l1; exact wrap64 (by omega) (by omega)
                            have HPT := Aside0.mk (show partOf ⟨xp, xa, xw⟩ lg = ⟨xp, min xa y, max xa y⟩ by unfold partOf; simp only; rw [hy, hm])
                            have HZ8 := Aside0.mk (show W0.heap.size ≤ W4.heap.size by have h1 := Q8.out.size; omega)
                            have HPLN := Aside0.mk (show ps.length ≤ 400 by have := HSG.out.len; omega)
                            clear hy hm hmul hlb hz6
                            have t1 := T8.out.c 1 _ rfl; have t2 := T8.out.c 2 _ rfl; have x0 := T82.out.c 0 _ rfl
                            rcases Int.lt_trichotomy y xa with hyx | hyx | hyx
                            · have hyx2 : ¬ xa < y := by omega
                              have hmn : min xa y = y := by omega
                              have hmx : max xa y = xa := by omega
                              have HPT2 := Aside0.mk (show partOf ⟨xp, xa, xw⟩ lg = ⟨xp, y, xa⟩ by rw [HPT.out, show min xa y = y by omega, show max xa y = xa by omega])
                              rw [HPT2.out] at HNX
                              have HLEN : Aside0 ((ps ++ [(⟨xp, y, xa⟩ : PartT)]).length = ps.length + 1) := ⟨by simp⟩
                              go_wp2_with ((with_reducible refine gate_callP (b := .append) (xs := #[.tmp 108, .tmp 120]) rfl ?_); at_builtin; refine Kd.R_append kPart (w0 := W4) W0.heap.size rfl (.tmp 108) (.tmp 120) 26 89 (.agg #[.int .i64 0, .int .i64 0, .int .i64 0]) 24 rfl Try.underlying26 info89 rfl (by decide) (by omega) (.slice PA ps.length pc) ps ⟨xp, y, xa⟩ [.int .i64 xp, .int .i64 y, .int .i64 xa] (fun _ => True) (fun _ => False) rfl (by first | (go_simp; done) | (go_simp; rfl)) (kPart_mkM _ _ _ ⟨xp, y, xa⟩) (fun _ hk => hk.elim) (fun _ _ => trivial) O8.out (Below.refl _ _) HZ8.out (by have := HPLN.out; omega) ?_; intro v1 w9 hR9 hB9 hG9 hat9; obtain ⟨pA1, pc1, hv9⟩ := Kd.R_slice hR9; rw [HLEN.out] at hv9; subst hv9; have R9 := Aside0.mk hR9; have G9 := Aside0.mk hG9; have B9 := Aside0.mk hB9; clear hR9 hB9 hG9 hat9)
                              go_roundw
                              case rel =>
                                have h1 := HS.out.lt
                                have hne : ∀ b, b < W0.heap.size → some b ≠ (Value.slice PA ps.length pc).ownBlock := fun b hb he => by have := Kd.R_base O8.out _ he.symm; omega
                                refine ⟨i + 1, ps ++ [(⟨xp, y, xa⟩ : PartT)], left - lg, pA1, pc1, by rw [HLEN.out], rfl, by go_num, by omega, HNX, ⟨by rw [HLEN.out]; exact R9.out⟩, ⟨N8.out.grownP G9.out (hne _ (by omega))⟩, ⟨S8.out.grownP G9.out (hne _ (by omega))⟩, ⟨?_⟩, by have h2 := B9.out.size; have h3 := HZ8.out; omega⟩
                                exact B8.out.trans ⟨B9.out.os, B9.out.tape, B9.out.output, B9.out.size, fun i hi => B9.out.block i (by omega)⟩
                              case measure => simp [intOf]; omega
                            · subst hyx
                              have HPT2 := Aside0.mk (show partOf ⟨xp, y, xw⟩ lg = ⟨xp, y, y⟩ by rw [HPT.out, show min y y = y by omega, show max y y = y by omega])
                              rw [HPT2.out] at HNX
                              have HLEN : Aside0 ((ps ++ [(⟨xp, y, y⟩ : PartT)]).length = ps.length + 1) := ⟨by simp⟩
                              go_wp2_with ((with_reducible refine gate_callP (b := .append) (xs := #[.tmp 108, .tmp 120]) rfl ?_); at_builtin; refine Kd.R_append kPart (w0 := W4) W0.heap.size rfl (.tmp 108) (.tmp 120) 26 89 (.agg #[.int .i64 0, .int .i64 0, .int .i64 0]) 24 rfl Try.underlying26 info89 rfl (by decide) (by omega) (.slice PA ps.length pc) ps ⟨xp, y, y⟩ [.int .i64 xp, .int .i64 y, .int .i64 y] (fun _ => True) (fun _ => False) rfl (by first | (go_simp; done) | (go_simp; rfl)) (kPart_mkM _ _ _ ⟨xp, y, y⟩) (fun _ hk => hk.elim) (fun _ _ => trivial) O8.out (Below.refl _ _) HZ8.out (by have := HPLN.out; omega) ?_; intro v1 w9 hR9 hB9 hG9 hat9; obtain ⟨pA1, pc1, hv9⟩ := Kd.R_slice hR9; rw [HLEN.out] at hv9; subst hv9; have R9 := Aside0.mk hR9; have G9 := Aside0.mk hG9; have B9 := Aside0.mk hB9; clear hR9 hB9 hG9 hat9)
                              go_roundw
                              case rel =>
                                have h1 := HS.out.lt
                                have hne : ∀ b, b < W0.heap.size → some b ≠ (Value.slice PA ps.length pc).ownBlock := fun b hb he => by have := Kd.R_base O8.out _ he.symm; omega
                                refine ⟨i + 1, ps ++ [(⟨xp, y, y⟩ : PartT)], left - lg, pA1, pc1, by rw [HLEN.out], rfl, by go_num, by omega, HNX, ⟨by rw [HLEN.out]; exact R9.out⟩, ⟨N8.out.grownP G9.out (hne _ (by omega))⟩, ⟨S8.out.grownP G9.out (hne _ (by omega))⟩, ⟨?_⟩, by have h2 := B9.out.size; have h3 := HZ8.out; omega⟩
                                exact B8.out.trans ⟨B9.out.os, B9.out.tape, B9.out.output, B9.out.size, fun i hi => B9.out.block i (by omega)⟩
                              case measure => simp [intOf]; omega
                            · have hyx2 : ¬ y < xa := by omega
                              have hmn : min xa y = xa := by omega
                              have hmx : max xa y = y := by omega
                              have HPT2 := Aside0.mk (show partOf ⟨xp, xa, xw⟩ lg = ⟨xp, xa, y⟩ by rw [HPT.out, show min xa y = xa by omega, show max xa y = y by omega])
                              rw [HPT2.out] at HNX
                              have HLEN : Aside0 ((ps ++ [(⟨xp, xa, y⟩ : PartT)]).length = ps.length + 1) := ⟨by simp⟩
                              go_wp2_with ((with_reducible refine gate_callP (b := .append) (xs := #[.tmp 108, .tmp 120]) rfl ?_); at_builtin; refine Kd.R_append kPart (w0 := W4) W0.heap.size rfl (.tmp 108) (.tmp 120) 26 89 (.agg #[.int .i64 0, .int .i64 0, .int .i64 0]) 24 rfl Try.underlying26 info89 rfl (by decide) (by omega) (.slice PA ps.length pc) ps ⟨xp, xa, y⟩ [.int .i64 xp, .int .i64 xa, .int .i64 y] (fun _ => True) (fun _ => False) rfl (by first | (go_simp; done) | (go_simp; rfl)) (kPart_mkM _ _ _ ⟨xp, xa, y⟩) (fun _ hk => hk.elim) (fun _ _ => trivial) O8.out (Below.refl _ _) HZ8.out (by have := HPLN.out; omega) ?_; intro v1 w9 hR9 hB9 hG9 hat9; obtain ⟨pA1, pc1, hv9⟩ := Kd.R_slice hR9; rw [HLEN.out] at hv9; subst hv9; have R9 := Aside0.mk hR9; have G9 := Aside0.mk hG9; have B9 := Aside0.mk hB9; clear hR9 hB9 hG9 hat9)
                              go_roundw
                              case rel =>
                                have h1 := HS.out.lt
                                have hne : ∀ b, b < W0.heap.size → some b ≠ (Value.slice PA ps.length pc).ownBlock := fun b hb he => by have := Kd.R_base O8.out _ he.symm; omega
                                refine ⟨i + 1, ps ++ [(⟨xp, xa, y⟩ : PartT)], left - lg, pA1, pc1, by rw [HLEN.out], rfl, by go_num, by omega, HNX, ⟨by rw [HLEN.out]; exact R9.out⟩, ⟨N8.out.grownP G9.out (hne _ (by omega))⟩, ⟨S8.out.grownP G9.out (hne _ (by omega))⟩, ⟨?_⟩, by have h2 := B9.out.size; have h3 := HZ8.out; omega⟩
                                exact B8.out.trans ⟨B9.out.os, B9.out.tape, B9.out.output, B9.out.size, fun i hi => B9.out.block i (by omega)⟩
                              case measure => simp [intOf]; omega
                      · have HDN := Aside0.mk (str_done (n := n) (p := ⟨true, far, l, pls⟩) (a := ⟨ap, aa, aw⟩) rfl HGD.out HSP.out HFA.out HLP.out HH2.out HOK.out (HSG.out.stop HLP.out (by omega)))
                        by_cases hle : 0 < left
                        · have HV := Aside0.mk (show stretchV n ⟨true, far, l, pls⟩ ⟨ap, aa, aw⟩ = [] by rw [HDN.out, if_pos hle])
                          go_wp2_with fail
                          go_ret
                          exact ⟨_, rfl, by rw [HV.out]; exact Kd.R_nil .., B6.out⟩
                        · have HV := Aside0.mk (show stretchV n ⟨true, far, l, pls⟩ ⟨ap, aa, aw⟩ = ps by rw [HDN.out, if_neg hle])
                          go_wp2_with fail
                          go_ret
                          exact ⟨_, rfl, by rw [HV.out]; exact Kd.R_lower HO.out (by have := fb.out.size; omega), B6.out⟩
            · have HV := Aside0.mk (str_head (n := n) (p := ⟨true, far, l, pls⟩) (a := ⟨ap, aa, aw⟩) HLP.out (by simp only; rw [HH.out]; exact fun e => h2 (by injection e)))
              obtain rfl := h1.symm
              have HS0 : Aside0 (∀ W, Below W0.heap.size W0 W → (Below W0.heap.size W0 W ∧ W.cell? ⟨w.heap.size, 0, none⟩ = some (.slice A0 n.pieces.length c0) ∧ W.cell? ⟨w.heap.size, 1, none⟩ = some (.slice A1 n.joints.length c1) ∧ W.cell? ⟨w.heap.size + 1, 0, none⟩ = some (.bool true) ∧ W.cell? ⟨w.heap.size + 1, 1, none⟩ = some (.int .i64 far) ∧ W.cell? ⟨w.heap.size + 1, 2, none⟩ = some (.slice (some adS) l.length d0) ∧ W.cell? ⟨w.heap.size + 1, 3, none⟩ = some (.slice B1 pls.length d1) ∧ W.cell? ⟨w.heap.size + 1 + 1, 0, none⟩ = some (.int .i64 ap) ∧ W.cell? ⟨w.heap.size + 1 + 1, 1, none⟩ = some (.int .i64 aa) ∧ W.cell? ⟨w.heap.size + 1 + 1, 2, none⟩ = some (.int .i64 aw) ∧ W.cell? adS = some (.int .i64 ap) ∧ W.cell? ⟨adS.block, adS.off + 1, none⟩ = some (.int .i64 hw))) := ⟨fun W hb => ⟨hb, (HN.out.below hb).c 0 _ rfl, (HN.out.below hb).c 1 _ rfl, (HP.out.below hb).c 0 _ rfl, (HP.out.below hb).c 1 _ rfl, (HP.out.below hb).c 2 _ rfl, (HP.out.below hb).c 3 _ rfl, (HS.out.below hb).c 0 _ rfl, (HS.out.below hb).c 1 _ rfl, (HS.out.below hb).c 2 _ rfl, pw_cell_below hb HY0.out, pw_cell_below hb HY1.out⟩⟩
              go_enter Try.func92, Try.ntmps92
              go_wp2_with fail
              rw [← HW.out]
              refine wp_region_held_drew (S := fun W => Below W0.heap.size W0 W ∧ W.cell? ⟨w.heap.size, 0, none⟩ = some (.slice A0 n.pieces.length c0) ∧ W.cell? ⟨w.heap.size, 1, none⟩ = some (.slice A1 n.joints.length c1) ∧ W.cell? ⟨w.heap.size + 1, 0, none⟩ = some (.bool true) ∧ W.cell? ⟨w.heap.size + 1, 1, none⟩ = some (.int .i64 far) ∧ W.cell? ⟨w.heap.size + 1, 2, none⟩ = some (.slice (some adS) l.length d0) ∧ W.cell? ⟨w.heap.size + 1, 3, none⟩ = some (.slice B1 pls.length d1) ∧ W.cell? ⟨w.heap.size + 1 + 1, 0, none⟩ = some (.int .i64 ap) ∧ W.cell? ⟨w.heap.size + 1 + 1, 1, none⟩ = some (.int .i64 aa) ∧ W.cell? ⟨w.heap.size + 1 + 1, 2, none⟩ = some (.int .i64 aw) ∧ W.cell? adS = some (.int .i64 ap) ∧ W.cell? ⟨adS.block, adS.off + 1, none⟩ = some (.int .i64 hw)) (by kernel_rfl) ?_ (fun hHeld => ?_)
              · exact HS0.out _ (Below.drew (Below.refl _ _))
              refine tkq (i := 0) (v := ?_) rfl (Or.inl ⟨by rfl, ?_⟩) hHeld ?_; rotate_left; · (intro w h; (try dsimp only at h); go_simp; (try with_reducible rfl))
              (try simp only [Act.put, z1, z2, z3, z4, z5, z6])
              refine tkq (i := 1) (v := ?_) rfl (Or.inl ⟨by rfl, ?_⟩) hHeld ?_; rotate_left; · (intro w h; (try dsimp only at h); go_simp; (try with_reducible rfl))
              (try simp only [Act.put, z1, z2, z3, z4, z5, z6])
              refine tkq (i := 2) (v := ?_) rfl (Or.inl ⟨by rfl, ?_⟩) hHeld ?_; rotate_left; · (intro w h; (try dsimp only at h); go_simp; (try with_reducible rfl))
              (try simp only [Act.put, z1, z2, z3, z4, z5, z6])
              refine tkq (i := 3) (v := ?_) rfl (Or.inl ⟨by rfl, ?_⟩) hHeld ?_; rotate_left; · (intro w h; (try dsimp only at h); go_simp; (try with_reducible rfl))
              (try simp only [Act.put, z1, z2, z3, z4, z5, z6])
              refine tkq (i := 4) (v := ?_) rfl (Or.inl ⟨by rfl, ?_⟩) hHeld ?_; rotate_left; · (intro w h; (try dsimp only at h); go_simp; (try with_reducible rfl))
              (try simp only [Act.put, z1, z2, z3, z4, z5, z6])
              refine wpAnyH_ready (rs := [5]) (by kernel_rfl) (by simp) ?_
              refine AllReadyH.cons rfl (fun K hK => ?_) AllReadyH.nil
              go_simp
              (go_at_call 130; go_split_ands; (with_reducible refine Calls.mono (good_any n ((A0, c0), (A1, c1)) _ ((HR.out.below fb.out).below (by assumption)) HF.out) ?_); rintro e w3 ⟨rfl, b3⟩; rw [HGD.out]; have q3 : Below W0.heap.size W0 w3 := below_more (by assumption) b3; clear b3)
              go_wp2_with fail
              refine hK.out _ _ (HS0.out _ (by assumption)) (fun hHeld => ?_)
              clear hK K
              (try simp only [Act.put, z1, z2, z3, z4, z5, z6])
              refine tkq (i := 6) (v := ?_) rfl (Or.inl ⟨by rfl, ?_⟩) hHeld ?_; rotate_left; · (intro w h; (try dsimp only at h); go_simp; (try with_reducible rfl))
              (try simp only [Act.put, z1, z2, z3, z4, z5, z6])
              refine tkq (i := 7) (v := ?_) rfl (Or.inl ⟨by rfl, ?_⟩) hHeld ?_; rotate_left; · (intro w h; (try dsimp only at h); go_simp; (try with_reducible rfl))
              (try simp only [Act.put, z1, z2, z3, z4, z5, z6])
              refine tkq (i := 8) (v := ?_) rfl (Or.inl ⟨by rfl, ?_⟩) hHeld ?_; rotate_left; · (intro w h; (try dsimp only at h); go_simp; (try with_reducible rfl))
              (try simp only [Act.put, z1, z2, z3, z4, z5, z6])
              refine tkq (i := 9) (v := ?_) rfl (Or.inl ⟨by rfl, ?_⟩) hHeld ?_; rotate_left; · (intro w h; (try dsimp only at h); go_simp; (try with_reducible rfl))
              (try simp only [Act.put, z1, z2, z3, z4, z5, z6])
              refine tkq (i := 10) (v := ?_) rfl (Or.inl ⟨by rfl, ?_⟩) hHeld ?_; rotate_left; · (intro w h; (try dsimp only at h); go_simp; (try with_reducible rfl))
              (try simp only [Act.put, z1, z2, z3, z4, z5, z6])
              refine wpAnyH_ready (rs := [11]) (by kernel_rfl) (by simp) ?_
              refine AllReadyH.cons rfl (fun K hK => ?_) AllReadyH.nil
              go_simp
              (go_at_call 131; go_split_ands; (with_reducible refine Calls.mono (spotOk_any n ((A0, c0), (A1, c1)) ⟨ap, aa, aw⟩ _ ((HR.out.below fb.out).below (by assumption))) ?_); rintro e w4 ⟨rfl, b4⟩; rw [HSP.out]; have q4 : Below W0.heap.size W0 w4 := below_more (by assumption) b4; clear b4)
              go_wp2_with fail
              refine hK.out _ _ (HS0.out _ (by assumption)) (fun hHeld => ?_)
              clear hK K
              (try simp only [Act.put, z1, z2, z3, z4, z5, z6])
              refine tkq (i := 12) (v := ?_) rfl (Or.inl ⟨by rfl, ?_⟩) hHeld ?_; rotate_left; · (intro w h; (try dsimp only at h); go_simp; (try with_reducible rfl))
              (try simp only [Act.put, z1, z2, z3, z4, z5, z6])
              refine tkq (i := 13) (v := ?_) rfl (Or.inl ⟨by rfl, ?_⟩) hHeld ?_; rotate_left; · (intro w h; (try dsimp only at h); go_simp; (try with_reducible rfl))
              (try simp only [Act.put, z1, z2, z3, z4, z5, z6])
              refine tkq (i := 14) (v := ?_) rfl (Or.inl ⟨by rfl, ?_⟩) hHeld ?_; rotate_left; · (intro w h; (try dsimp only at h); go_simp; (try with_reducible rfl))
              (try simp only [Act.put, z1, z2, z3, z4, z5, z6])
              refine tkq (i := 15) (v := ?_) rfl (Or.inl ⟨by rfl, ?_⟩) hHeld ?_; rotate_left; · (intro w h; (try dsimp only at h); go_simp; (try with_reducible rfl))
              (try simp only [Act.put, z1, z2, z3, z4, z5, z6])
              refine tkq (i := 16) (v := ?_) rfl (Or.inl ⟨by rfl, ?_⟩) hHeld ?_; rotate_left; · (intro w h; (try dsimp only at h); go_simp; (try with_reducible rfl))
              (try simp only [Act.put, z1, z2, z3, z4, z5, z6])
              refine tkq (i := 17) (v := ?_) rfl (Or.inl ⟨by rfl, ?_⟩) hHeld ?_; rotate_left; · (intro w h; (try dsimp only at h); go_simp; (try with_reducible rfl))
              (try simp only [Act.put, z1, z2, z3, z4, z5, z6])
              refine tkq (i := 18) (v := ?_) rfl (Or.inl ⟨by rfl, ?_⟩) hHeld ?_; rotate_left; · (intro w h; (try dsimp only at h); go_simp; (try with_reducible rfl))
              (try simp only [Act.put, z1, z2, z3, z4, z5, z6])
              refine tkq (i := 19) (v := ?_) rfl (Or.inl ⟨by rfl, ?_⟩) hHeld ?_; rotate_left; · (intro w h; (try dsimp only at h); go_simp; (try with_reducible rfl))
              (try simp only [Act.put, z1, z2, z3, z4, z5, z6])
              refine tkq (i := 20) (v := ?_) rfl (Or.inl ⟨by rfl, ?_⟩) hHeld ?_; rotate_left; · (intro w h; (try dsimp only at h); go_simp; (try with_reducible rfl))
              (try simp only [Act.put, z1, z2, z3, z4, z5, z6])
              refine tkq (i := 21) (v := ?_) rfl (Or.inl ⟨by rfl, ?_⟩) hHeld ?_; rotate_left; · (intro w h; (try dsimp only at h); go_simp; (try with_reducible rfl))
              (try simp only [Act.put, z1, z2, z3, z4, z5, z6])
              refine tkq (i := 22) (v := ?_) rfl (Or.inl ⟨by rfl, ?_⟩) hHeld ?_; rotate_left; · (intro w h; (try dsimp only at h); go_simp; (try with_reducible rfl))
              (try simp only [Act.put, z1, z2, z3, z4, z5, z6])
              refine tkq (i := 23) (v := ?_) rfl (Or.inl ⟨by rfl, ?_⟩) hHeld ?_; rotate_left; · (intro w h; (try dsimp only at h); go_simp; (try with_reducible rfl))
              (try simp only [Act.put, z1, z2, z3, z4, z5, z6])
              refine tkq (i := 24) (v := ?_) rfl (Or.inl ⟨by rfl, ?_⟩) hHeld ?_; rotate_left; · (intro w h; (try dsimp only at h); go_simp; (try with_reducible rfl))
              (try simp only [Act.put, z1, z2, z3, z4, z5, z6])
              refine tkq (i := 25) (v := ?_) rfl (Or.inl ⟨by rfl, ?_⟩) hHeld ?_; rotate_left; · (intro w h; (try dsimp only at h); go_simp; (try with_reducible rfl))
              (try simp only [Act.put, z1, z2, z3, z4, z5, z6])
              refine tkq (i := 26) (v := ?_) rfl (Or.inl ⟨by rfl, ?_⟩) hHeld ?_; rotate_left; · (intro w h; (try dsimp only at h); go_simp; (try with_reducible rfl))
              (try simp only [Act.put, z1, z2, z3, z4, z5, z6])
              refine tkq (i := 27) (v := ?_) rfl (Or.inl ⟨by rfl, ?_⟩) hHeld ?_; rotate_left; · (intro w h; (try dsimp only at h); go_simp; (try with_reducible rfl))
              (try simp only [Act.put, z1, z2, z3, z4, z5, z6])
              refine tkq (i := 28) (v := ?_) rfl (Or.inl ⟨by rfl, ?_⟩) hHeld ?_; rotate_left; · (intro w h; (try dsimp only at h); go_simp; (try with_reducible rfl))
              (try simp only [Act.put, z1, z2, z3, z4, z5, z6])
              refine tkq (i := 29) (v := ?_) rfl (Or.inl ⟨by rfl, ?_⟩) hHeld ?_; rotate_left; · (intro w h; (try dsimp only at h); go_simp; (try with_reducible rfl))
              (try simp only [Act.put, z1, z2, z3, z4, z5, z6])
              refine tkq (i := 30) (v := ?_) rfl (Or.inl ⟨by rfl, ?_⟩) hHeld ?_; rotate_left; · (intro w h; (try dsimp only at h); go_simp; (try with_reducible rfl))
              (try simp only [Act.put, z1, z2, z3, z4, z5, z6])
              refine tkq (i := 31) (v := ?_) rfl (Or.inl ⟨by rfl, ?_⟩) hHeld ?_; rotate_left; · (intro w h; (try dsimp only at h); go_simp; (try with_reducible rfl))
              (try simp only [Act.put, z1, z2, z3, z4, z5, z6])
              refine tkq (i := 32) (v := ?_) rfl (Or.inl ⟨by rfl, ?_⟩) hHeld ?_; rotate_left; · (intro w h; (try dsimp only at h); go_simp; (try with_reducible rfl))
              (try simp only [Act.put, z1, z2, z3, z4, z5, z6])
              refine tkq (i := 33) (v := undef) rfl (Or.inr ⟨by rfl, rfl⟩) hHeld ?_
              (try simp only [Act.put, z1, z2, z3, z4, z5, z6])
              refine tkq (i := 34) (v := undef) rfl (Or.inr ⟨by rfl, rfl⟩) hHeld ?_
              (try simp only [Act.put, z1, z2, z3, z4, z5, z6])
              refine tkq (i := 35) (v := undef) rfl (Or.inr ⟨by rfl, rfl⟩) hHeld ?_
              (try simp only [Act.put, z1, z2, z3, z4, z5, z6])
              refine tkq (i := 36) (v := ?_) rfl (Or.inl ⟨by rfl, ?_⟩) hHeld ?_; rotate_left; · (intro w h; (try dsimp only at h); go_simp; (try with_reducible rfl))
              (try simp only [Act.put, z1, z2, z3, z4, z5, z6])
              refine tkq (i := 37) (v := ?_) rfl (Or.inl ⟨by rfl, ?_⟩) hHeld ?_; rotate_left; · (intro w h; (try dsimp only at h); go_simp; (try with_reducible rfl))
              (try simp only [Act.put, z1, z2, z3, z4, z5, z6])
              refine tkq (i := 38) (v := undef) rfl (Or.inr ⟨by rfl, rfl⟩) hHeld ?_
              (try simp only [Act.put, z1, z2, z3, z4, z5, z6])
              refine tkq (i := 39) (v := undef) rfl (Or.inr ⟨by rfl, rfl⟩) hHeld ?_
              (try simp only [Act.put, z1, z2, z3, z4, z5, z6])
              refine tkq (i := 40) (v := undef) rfl (Or.inr ⟨by rfl, rfl⟩) hHeld ?_
              (try simp only [Act.put, z1, z2, z3, z4, z5, z6])
              refine tkq (i := 41) (v := ?_) rfl (Or.inl ⟨by rfl, ?_⟩) hHeld ?_; rotate_left; · (intro w h; (try dsimp only at h); go_simp; (try with_reducible rfl))
              (try simp only [Act.put, z1, z2, z3, z4, z5, z6])
              refine wpAnyH_done (by kernel_rfl) ?_ _
              go_wp2_with fail
              go_ret
              exact ⟨_, rfl, by rw [HV.out]; exact Kd.R_nil .., (by first | (with_reducible exact below_more fb.out (by assumption)) | exact below_drew fb.out)⟩
          · have HV := Aside0.mk (str_head (n := n) (p := ⟨true, far, l, pls⟩) (a := ⟨ap, aa, aw⟩) HLP.out (by simp only; rw [HH.out]; exact fun e => h1 (by injection e)))
            have HS0 : Aside0 (∀ W, Below W0.heap.size W0 W → (Below W0.heap.size W0 W ∧ W.cell? ⟨w.heap.size, 0, none⟩ = some (.slice A0 n.pieces.length c0) ∧ W.cell? ⟨w.heap.size, 1, none⟩ = some (.slice A1 n.joints.length c1) ∧ W.cell? ⟨w.heap.size + 1, 0, none⟩ = some (.bool true) ∧ W.cell? ⟨w.heap.size + 1, 1, none⟩ = some (.int .i64 far) ∧ W.cell? ⟨w.heap.size + 1, 2, none⟩ = some (.slice (some adS) l.length d0) ∧ W.cell? ⟨w.heap.size + 1, 3, none⟩ = some (.slice B1 pls.length d1) ∧ W.cell? ⟨w.heap.size + 1 + 1, 0, none⟩ = some (.int .i64 ap) ∧ W.cell? ⟨w.heap.size + 1 + 1, 1, none⟩ = some (.int .i64 aa) ∧ W.cell? ⟨w.heap.size + 1 + 1, 2, none⟩ = some (.int .i64 aw) ∧ W.cell? adS = some (.int .i64 hp) ∧ W.cell? ⟨adS.block, adS.off + 1, none⟩ = some (.int .i64 hw))) := ⟨fun W hb => ⟨hb, (HN.out.below hb).c 0 _ rfl, (HN.out.below hb).c 1 _ rfl, (HP.out.below hb).c 0 _ rfl, (HP.out.below hb).c 1 _ rfl, (HP.out.below hb).c 2 _ rfl, (HP.out.below hb).c 3 _ rfl, (HS.out.below hb).c 0 _ rfl, (HS.out.below hb).c 1 _ rfl, (HS.out.below hb).c 2 _ rfl, pw_cell_below hb HY0.out, pw_cell_below hb HY1.out⟩⟩
            go_enter Try.func92, Try.ntmps92
            go_wp2_with fail
            rw [← HW.out]
            refine wp_region_held_drew (S := fun W => Below W0.heap.size W0 W ∧ W.cell? ⟨w.heap.size, 0, none⟩ = some (.slice A0 n.pieces.length c0) ∧ W.cell? ⟨w.heap.size, 1, none⟩ = some (.slice A1 n.joints.length c1) ∧ W.cell? ⟨w.heap.size + 1, 0, none⟩ = some (.bool true) ∧ W.cell? ⟨w.heap.size + 1, 1, none⟩ = some (.int .i64 far) ∧ W.cell? ⟨w.heap.size + 1, 2, none⟩ = some (.slice (some adS) l.length d0) ∧ W.cell? ⟨w.heap.size + 1, 3, none⟩ = some (.slice B1 pls.length d1) ∧ W.cell? ⟨w.heap.size + 1 + 1, 0, none⟩ = some (.int .i64 ap) ∧ W.cell? ⟨w.heap.size + 1 + 1, 1, none⟩ = some (.int .i64 aa) ∧ W.cell? ⟨w.heap.size + 1 + 1, 2, none⟩ = some (.int .i64 aw) ∧ W.cell? adS = some (.int .i64 hp) ∧ W.cell? ⟨adS.block, adS.off + 1, none⟩ = some (.int .i64 hw)) (by kernel_rfl) ?_ (fun hHeld => ?_)
            · exact HS0.out _ (Below.drew (Below.refl _ _))
            refine tkq (i := 0) (v := ?_) rfl (Or.inl ⟨by rfl, ?_⟩) hHeld ?_; rotate_left; · (intro w h; (try dsimp only at h); go_simp; (try with_reducible rfl))
            (try simp only [Act.put, z1, z2, z3, z4, z5, z6])
            refine tkq (i := 1) (v := ?_) rfl (Or.inl ⟨by rfl, ?_⟩) hHeld ?_; rotate_left; · (intro w h; (try dsimp only at h); go_simp; (try with_reducible rfl))
            (try simp only [Act.put, z1, z2, z3, z4, z5, z6])
            refine tkq (i := 2) (v := ?_) rfl (Or.inl ⟨by rfl, ?_⟩) hHeld ?_; rotate_left; · (intro w h; (try dsimp only at h); go_simp; (try with_reducible rfl))
            (try simp only [Act.put, z1, z2, z3, z4, z5, z6])
            refine tkq (i := 3) (v := ?_) rfl (Or.inl ⟨by rfl, ?_⟩) hHeld ?_; rotate_left; · (intro w h; (try dsimp only at h); go_simp; (try with_reducible rfl))
            (try simp only [Act.put, z1, z2, z3, z4, z5, z6])
            refine tkq (i := 4) (v := ?_) rfl (Or.inl ⟨by rfl, ?_⟩) hHeld ?_; rotate_left; · (intro w h; (try dsimp only at h); go_simp; (try with_reducible rfl))
            (try simp only [Act.put, z1, z2, z3, z4, z5, z6])
            refine wpAnyH_ready (rs := [5]) (by kernel_rfl) (by simp) ?_
            refine AllReadyH.cons rfl (fun K hK => ?_) AllReadyH.nil
            go_simp
            (go_at_call 130; go_split_ands; (with_reducible refine Calls.mono (good_any n ((A0, c0), (A1, c1)) _ ((HR.out.below fb.out).below (by assumption)) HF.out) ?_); rintro e w3 ⟨rfl, b3⟩; rw [HGD.out]; have q3 : Below W0.heap.size W0 w3 := below_more (by assumption) b3; clear b3)
            go_wp2_with fail
            refine hK.out _ _ (HS0.out _ (by assumption)) (fun hHeld => ?_)
            clear hK K
            (try simp only [Act.put, z1, z2, z3, z4, z5, z6])
            refine tkq (i := 6) (v := ?_) rfl (Or.inl ⟨by rfl, ?_⟩) hHeld ?_; rotate_left; · (intro w h; (try dsimp only at h); go_simp; (try with_reducible rfl))
            (try simp only [Act.put, z1, z2, z3, z4, z5, z6])
            refine tkq (i := 7) (v := ?_) rfl (Or.inl ⟨by rfl, ?_⟩) hHeld ?_; rotate_left; · (intro w h; (try dsimp only at h); go_simp; (try with_reducible rfl))
            (try simp only [Act.put, z1, z2, z3, z4, z5, z6])
            refine tkq (i := 8) (v := ?_) rfl (Or.inl ⟨by rfl, ?_⟩) hHeld ?_; rotate_left; · (intro w h; (try dsimp only at h); go_simp; (try with_reducible rfl))
            (try simp only [Act.put, z1, z2, z3, z4, z5, z6])
            refine tkq (i := 9) (v := ?_) rfl (Or.inl ⟨by rfl, ?_⟩) hHeld ?_; rotate_left; · (intro w h; (try dsimp only at h); go_simp; (try with_reducible rfl))
            (try simp only [Act.put, z1, z2, z3, z4, z5, z6])
            refine tkq (i := 10) (v := ?_) rfl (Or.inl ⟨by rfl, ?_⟩) hHeld ?_; rotate_left; · (intro w h; (try dsimp only at h); go_simp; (try with_reducible rfl))
            (try simp only [Act.put, z1, z2, z3, z4, z5, z6])
            refine wpAnyH_ready (rs := [11]) (by kernel_rfl) (by simp) ?_
            refine AllReadyH.cons rfl (fun K hK => ?_) AllReadyH.nil
            go_simp
            (go_at_call 131; go_split_ands; (with_reducible refine Calls.mono (spotOk_any n ((A0, c0), (A1, c1)) ⟨ap, aa, aw⟩ _ ((HR.out.below fb.out).below (by assumption))) ?_); rintro e w4 ⟨rfl, b4⟩; rw [HSP.out]; have q4 : Below W0.heap.size W0 w4 := below_more (by assumption) b4; clear b4)
            go_wp2_with fail
            refine hK.out _ _ (HS0.out _ (by assumption)) (fun hHeld => ?_)
            clear hK K
            (try simp only [Act.put, z1, z2, z3, z4, z5, z6])
            refine tkq (i := 12) (v := ?_) rfl (Or.inl ⟨by rfl, ?_⟩) hHeld ?_; rotate_left; · (intro w h; (try dsimp only at h); go_simp; (try with_reducible rfl))
            (try simp only [Act.put, z1, z2, z3, z4, z5, z6])
            refine tkq (i := 13) (v := ?_) rfl (Or.inl ⟨by rfl, ?_⟩) hHeld ?_; rotate_left; · (intro w h; (try dsimp only at h); go_simp; (try with_reducible rfl))
            (try simp only [Act.put, z1, z2, z3, z4, z5, z6])
            refine tkq (i := 14) (v := ?_) rfl (Or.inl ⟨by rfl, ?_⟩) hHeld ?_; rotate_left; · (intro w h; (try dsimp only at h); go_simp; (try with_reducible rfl))
            (try simp only [Act.put, z1, z2, z3, z4, z5, z6])
            refine tkq (i := 15) (v := ?_) rfl (Or.inl ⟨by rfl, ?_⟩) hHeld ?_; rotate_left; · (intro w h; (try dsimp only at h); go_simp; (try with_reducible rfl))
            (try simp only [Act.put, z1, z2, z3, z4, z5, z6])
            refine tkq (i := 16) (v := ?_) rfl (Or.inl ⟨by rfl, ?_⟩) hHeld ?_; rotate_left; · (intro w h; (try dsimp only at h); go_simp; (try with_reducible rfl))
            (try simp only [Act.put, z1, z2, z3, z4, z5, z6])
            refine tkq (i := 17) (v := ?_) rfl (Or.inl ⟨by rfl, ?_⟩) hHeld ?_; rotate_left; · (intro w h; (try dsimp only at h); go_simp; (try with_reducible rfl))
            (try simp only [Act.put, z1, z2, z3, z4, z5, z6])
            refine tkq (i := 18) (v := ?_) rfl (Or.inl ⟨by rfl, ?_⟩) hHeld ?_; rotate_left; · (intro w h; (try dsimp only at h); go_simp; (try with_reducible rfl))
            (try simp only [Act.put, z1, z2, z3, z4, z5, z6])
            refine tkq (i := 19) (v := ?_) rfl (Or.inl ⟨by rfl, ?_⟩) hHeld ?_; rotate_left; · (intro w h; (try dsimp only at h); go_simp; (try with_reducible rfl))
            (try simp only [Act.put, z1, z2, z3, z4, z5, z6])
            refine tkq (i := 20) (v := ?_) rfl (Or.inl ⟨by rfl, ?_⟩) hHeld ?_; rotate_left; · (intro w h; (try dsimp only at h); go_simp; (try with_reducible rfl))
            (try simp only [Act.put, z1, z2, z3, z4, z5, z6])
            refine tkq (i := 21) (v := ?_) rfl (Or.inl ⟨by rfl, ?_⟩) hHeld ?_; rotate_left; · (intro w h; (try dsimp only at h); go_simp; (try with_reducible rfl))
            (try simp only [Act.put, z1, z2, z3, z4, z5, z6])
            refine tkq (i := 22) (v := ?_) rfl (Or.inl ⟨by rfl, ?_⟩) hHeld ?_; rotate_left; · (intro w h; (try dsimp only at h); go_simp; (try with_reducible rfl))
            (try simp only [Act.put, z1, z2, z3, z4, z5, z6])
            refine tkq (i := 23) (v := ?_) rfl (Or.inl ⟨by rfl, ?_⟩) hHeld ?_; rotate_left; · (intro w h; (try dsimp only at h); go_simp; (try with_reducible rfl))
            (try simp only [Act.put, z1, z2, z3, z4, z5, z6])
            refine tkq (i := 24) (v := ?_) rfl (Or.inl ⟨by rfl, ?_⟩) hHeld ?_; rotate_left; · (intro w h; (try dsimp only at h); go_simp; (try with_reducible rfl))
            (try simp only [Act.put, z1, z2, z3, z4, z5, z6])
            refine tkq (i := 25) (v := ?_) rfl (Or.inl ⟨by rfl, ?_⟩) hHeld ?_; rotate_left; · (intro w h; (try dsimp only at h); go_simp; (try with_reducible rfl))
            (try simp only [Act.put, z1, z2, z3, z4, z5, z6])
            refine tkq (i := 26) (v := ?_) rfl (Or.inl ⟨by rfl, ?_⟩) hHeld ?_; rotate_left; · (intro w h; (try dsimp only at h); go_simp; (try with_reducible rfl))
            (try simp only [Act.put, z1, z2, z3, z4, z5, z6])
            refine tkq (i := 27) (v := ?_) rfl (Or.inl ⟨by rfl, ?_⟩) hHeld ?_; rotate_left; · (intro w h; (try dsimp only at h); go_simp; (try with_reducible rfl))
            (try simp only [Act.put, z1, z2, z3, z4, z5, z6])
            refine tkq (i := 28) (v := ?_) rfl (Or.inl ⟨by rfl, ?_⟩) hHeld ?_; rotate_left; · (intro w h; (try dsimp only at h); go_simp; (try with_reducible rfl))
            (try simp only [Act.put, z1, z2, z3, z4, z5, z6])
            refine tkq (i := 29) (v := ?_) rfl (Or.inl ⟨by rfl, ?_⟩) hHeld ?_; rotate_left; · (intro w h; (try dsimp only at h); go_simp; (try with_reducible rfl))
            (try simp only [Act.put, z1, z2, z3, z4, z5, z6])
            refine tkq (i := 30) (v := ?_) rfl (Or.inl ⟨by rfl, ?_⟩) hHeld ?_; rotate_left; · (intro w h; (try dsimp only at h); go_simp; (try with_reducible rfl))
            (try simp only [Act.put, z1, z2, z3, z4, z5, z6])
            refine tkq (i := 31) (v := ?_) rfl (Or.inl ⟨by rfl, ?_⟩) hHeld ?_; rotate_left; · (intro w h; (try dsimp only at h); go_simp; (try with_reducible rfl))
            (try simp only [Act.put, z1, z2, z3, z4, z5, z6])
            refine tkq (i := 32) (v := ?_) rfl (Or.inl ⟨by rfl, ?_⟩) hHeld ?_; rotate_left; · (intro w h; (try dsimp only at h); go_simp; (try with_reducible rfl))
            (try simp only [Act.put, z1, z2, z3, z4, z5, z6])
            refine tkq (i := 33) (v := undef) rfl (Or.inr ⟨by rfl, rfl⟩) hHeld ?_
            (try simp only [Act.put, z1, z2, z3, z4, z5, z6])
            refine tkq (i := 34) (v := undef) rfl (Or.inr ⟨by rfl, rfl⟩) hHeld ?_
            (try simp only [Act.put, z1, z2, z3, z4, z5, z6])
            refine tkq (i := 35) (v := undef) rfl (Or.inr ⟨by rfl, rfl⟩) hHeld ?_
            (try simp only [Act.put, z1, z2, z3, z4, z5, z6])
            refine tkq (i := 36) (v := ?_) rfl (Or.inl ⟨by rfl, ?_⟩) hHeld ?_; rotate_left; · (intro w h; (try dsimp only at h); go_simp; (try with_reducible rfl))
            (try simp only [Act.put, z1, z2, z3, z4, z5, z6])
            refine tkq (i := 37) (v := ?_) rfl (Or.inl ⟨by rfl, ?_⟩) hHeld ?_; rotate_left; · (intro w h; (try dsimp only at h); go_simp; (try with_reducible rfl))
            (try simp only [Act.put, z1, z2, z3, z4, z5, z6])
            refine tkq (i := 38) (v := undef) rfl (Or.inr ⟨by rfl, rfl⟩) hHeld ?_
            (try simp only [Act.put, z1, z2, z3, z4, z5, z6])
            refine tkq (i := 39) (v := undef) rfl (Or.inr ⟨by rfl, rfl⟩) hHeld ?_
            (try simp only [Act.put, z1, z2, z3, z4, z5, z6])
            refine tkq (i := 40) (v := undef) rfl (Or.inr ⟨by rfl, rfl⟩) hHeld ?_
            (try simp only [Act.put, z1, z2, z3, z4, z5, z6])
            refine tkq (i := 41) (v := ?_) rfl (Or.inl ⟨by rfl, ?_⟩) hHeld ?_; rotate_left; · (intro w h; (try dsimp only at h); go_simp; (try with_reducible rfl))
            (try simp only [Act.put, z1, z2, z3, z4, z5, z6])
            refine wpAnyH_done (by kernel_rfl) ?_ _
            go_wp2_with fail
            go_ret
            exact ⟨_, rfl, by rw [HV.out]; exact Kd.R_nil .., (by first | (with_reducible exact below_more fb.out (by assumption)) | exact below_drew fb.out)⟩
end Go.Proofs.Ytckcffjnffcjcaa
