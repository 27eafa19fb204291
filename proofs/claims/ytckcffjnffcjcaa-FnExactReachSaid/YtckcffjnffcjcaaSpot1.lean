/- Contracts of what asks whether a net and a spot are good: l1ok, good, l3spot, spotOk, SpotOk (both). Conditions: the net fits. -/
import Derived.Test.YtckcffjnffcjcaaNets
import Derived.Test.YtckcffjnffcjcaaNet4
set_option linter.unusedVariables false
set_option linter.unusedSimpArgs false
namespace Go.Proofs.Ytckcffjnffcjcaa
open Go.RowKit Go.Proofs.YtckcffjnffcjcaaW.PrintWords
def netGood (n : NetT) : Bool := (netFault n).1 == 0
theorem netGood_iff {n : NetT} : netGood n = true ↔ netFault n = (0, 0) := by
  unfold netGood
  rw [beq_iff_eq]
  refine ⟨fun h => ?_, fun h => by rw [h]⟩
  unfold netFault at h ⊢
  split at h
  · cases h
  · split at h
    · cases h
    · split at h
      · cases h
      · split at h
        · cases h
        · split at h
          · cases h
          · rename_i h1 _ _ _ _ _ _ _ _
            rw [if_neg h1]
set_option maxRecDepth 100000 in
theorem l1ok_any (n : NetT) (u : (Option Addr × Nat) × (Option Addr × Nat)) (w : World) (hr : RdNet 67 w u n) (hf : NetFits n) :
    Calls Try.prog 128 #[.agg #[.slice u.1.1 n.pieces.length u.1.2, .slice u.2.1 n.joints.length u.2.2]] w
      fun e w' => e = .returned (.bool (netGood n)) ∧ Below w.heap.size w w' := by
  have HR := Aside0.mk hr
  have HF := Aside0.mk hf
  clear hr hf
  obtain ⟨⟨A0, c0⟩, ⟨A1, c1⟩⟩ := u
  go_enter Try.func128, Try.ntmps128
  go_wp2_with (go_at_call 42; refine (specNetOk_any n ((A0, c0), (A1, c1)) _ (HR.out.below (below_alloc (Below.refl _ _) _)) HF.out.jn HF.out.pn HF.out.all).mono ?_; rintro e w3 ⟨rfl, hb3⟩; have HB := Aside0.mk (below_more (below_alloc (Below.refl _ _) _) hb3); clear hb3)
  go_ret
  exact ⟨rfl, below_alloc HB.out _⟩
set_option maxRecDepth 100000 in
theorem good_any (n : NetT) (u : (Option Addr × Nat) × (Option Addr × Nat)) (w : World) (hr : RdNet 67 w u n) (hf : NetFits n) :
    Calls Try.prog 130 #[.agg #[.slice u.1.1 n.pieces.length u.1.2, .slice u.2.1 n.joints.length u.2.2]] w
      fun e w' => e = .returned (.bool (netGood n)) ∧ Below w.heap.size w w' := by
  have HR := Aside0.mk hr
  have HF := Aside0.mk hf
  clear hr hf
  obtain ⟨⟨A0, c0⟩, ⟨A1, c1⟩⟩ := u
  cases hg : netGood n with
  | true =>
    have HN := Aside0.mk (netGood_iff.1 hg)
    clear hg
    go_enter Try.func130, Try.ntmps130
    go_wp2_with (go_at_call 44; refine (implNetOk_any n ((A0, c0), (A1, c1)) _ (HR.out.below (below_alloc (Below.refl _ _) _)) HF.out.jn HF.out.pn HF.out.all).mono ?_; rintro e w3 ⟨rfl, hb3⟩; rw [HN.out]; have HB := Aside0.mk (below_more (below_alloc (Below.refl _ _) _) hb3); clear hb3)
    go_ret
    exact ⟨rfl, HB.out⟩
  | false =>
    have hz : (netFault n).1 ≠ 0 := fun h => by unfold netGood at hg; rw [h] at hg; cases hg
    obtain ⟨⟨f0, f1⟩, hF⟩ : ∃ f, f = netFault n := ⟨_, rfl⟩
    rw [← hF] at hz
    have hz' : f0 ≠ 0 := hz
    clear hz
    have HN := Aside0.mk hF
    clear hg hF
    go_enter Try.func130, Try.ntmps130
    go_wp2_with (go_at_call 44; refine (implNetOk_any n ((A0, c0), (A1, c1)) _ (HR.out.below (below_alloc (Below.refl _ _) _)) HF.out.jn HF.out.pn HF.out.all).mono ?_; rintro e w3 ⟨rfl, hb3⟩; rw [← HN.out]; have HB := Aside0.mk (below_more (below_alloc (Below.refl _ _) _) hb3); clear hb3)
    all_goals
      go_ret
      exact ⟨rfl, HB.out⟩
theorem l1in_is (x a b : Int) (r : Bool) (h : inB x a b = r) (w : World) :
    Calls Try.prog 119 #[.int .i64 x, .int .i64 a, .int .i64 b] w fun e w' => e = .returned (.bool r) ∧ w' = w :=
  (l1in_any x a b w).mono fun e w' h2 => ⟨by rw [h2.1, h], h2.2.symm⟩
/-- Is the spot one of the net? -/
def spotB (n : NetT) (s : SpotT) : Bool := inB s.piece 0 ((n.pieces.length : Int) - 1) && (s.way == 1 || s.way == -1) && inB s.at_ 0 (n.pieces.getD s.piece.toNat default).len
set_option maxRecDepth 100000 in
set_option maxHeartbeats 1000000 in
theorem l3spot_any (n : NetT) (u : (Option Addr × Nat) × (Option Addr × Nat)) (s : SpotT) (w : World) (hr : RdNet 67 w u n) :
    Calls Try.prog 129 #[.agg #[.slice u.1.1 n.pieces.length u.1.2, .slice u.2.1 n.joints.length u.2.2], .agg #[.int .i64 s.piece, .int .i64 s.at_, .int .i64 s.way]] w
      fun e w' => e = .returned (.bool (spotB n s)) ∧ Below w.heap.size w w' := by
  have hm := hr.1.1.2.1
  have HR := Aside0.mk hr.1.1
  clear hr
  obtain ⟨⟨A0, c0⟩, ⟨A1, c1⟩⟩ := u
  obtain ⟨sp, sa, sw⟩ := s
  simp only at HR ⊢
  have hsum : IntKind.i64.wrap ((n.pieces.length : Int) - 1) = (n.pieces.length : Int) - 1 := wrap64 (by omega) (by omega)
  cases h1 : inB sp 0 ((n.pieces.length : Int) - 1) with
  | false =>
    have H1 := Aside0.mk h1
    have HB : Aside0 (spotB n ⟨sp, sa, sw⟩ = false) := ⟨by unfold spotB; simp only [h1]; rfl⟩
    clear h1
    go_enter Try.func129, Try.ntmps129
    go_wp2
    go_quiet ((go_at_call 119; exact Calls.quiet_of_same (l1in_is _ _ _ _ H1.out _)))
    go_wp2
    go_ret
    exact ⟨by rw [HB.out]; rfl, below_drewN' (below_two _ _ _) _⟩
  | true =>
    have h1' := inB_true.1 h1
    obtain ⟨i, hi⟩ := Int.eq_ofNat_of_zero_le h1'.1
    subst hi
    have hlt : i < n.pieces.length := by omega
    have H1 := Aside0.mk h1
    by_cases h2 : sw = 1 ∨ sw = -1
    · have HB : Aside0 (spotB n ⟨i, sa, sw⟩ = inB sa 0 (n.pieces.getD i default).len) := ⟨by
        unfold spotB
        simp only [h1, Bool.true_and, Int.toNat_natCast]
        rcases h2 with rfl | rfl <;> rfl⟩
      obtain ⟨ad0, e0, y0, y1, y2, y3⟩ := at_Piece HR.out i hlt
      subst e0
      obtain ⟨p, hp⟩ : ∃ p, p = n.pieces.getD i default := ⟨_, rfl⟩
      rw [← hp] at y0 y1 y2 y3 HB
      clear hp h1 h1' y0 y2 y3
      obtain ⟨W0, hW0⟩ : ∃ W0 : World, W0 = (w.alloc (.cells #[.slice (some ad0) n.pieces.length c0, .slice A1 n.joints.length c1] 35)).alloc (.cells #[.int .i64 i, .int .i64 sa, .int .i64 sw] 38) := ⟨_, rfl⟩
      have n0 : W0.cell? ⟨w.heap.size, 0, none⟩ = some (.slice (some ad0) n.pieces.length c0) := by rw [hW0]; go_simp
      have m0 : W0.cell? ⟨w.heap.size + 1, 0, none⟩ = some (.int .i64 i) := by rw [hW0]; go_simp
      have m1 : W0.cell? ⟨w.heap.size + 1, 1, none⟩ = some (.int .i64 sa) := by rw [hW0]; go_simp
      have m2 : W0.cell? ⟨w.heap.size + 1, 2, none⟩ = some (.int .i64 sw) := by rw [hW0]; go_simp
      have fb := Aside0.mk (show Below w.heap.size w W0 by rw [hW0]; exact below_two _ _ _)
      replace y1 := pw_cell_below fb.out y1
      have HW := Aside0.mk hW0
      clear hW0
      have b0 : (0 : Int) ≤ (i : Int) := by omega
      have b1 : (i : Int) < (n.pieces.length : Int) := by omega
      rcases h2 with rfl | rfl
      · go_enter Try.func129, Try.ntmps129
        go_wp2
        rw [← HW.out]
        go_quiet (first | (go_at_call_of 119 (Value.int .i64 (i : Int)); exact Calls.quiet_of_same (l1in_is _ _ _ _ H1.out _)) | (go_at_call_of 119 (Value.int .i64 sa); exact Calls.quiet_of_same (l1in_is _ _ _ _ rfl _)))
        go_wp2
        go_ret
        exact ⟨by rw [HB.out]; rfl, below_drewN' fb.out _⟩
      · go_enter Try.func129, Try.ntmps129
        go_wp2
        rw [← HW.out]
        go_quiet (first | (go_at_call_of 119 (Value.int .i64 (i : Int)); exact Calls.quiet_of_same (l1in_is _ _ _ _ H1.out _)) | (go_at_call_of 119 (Value.int .i64 sa); exact Calls.quiet_of_same (l1in_is _ _ _ _ rfl _)))
        go_wp2
        go_ret
        exact ⟨by rw [HB.out]; rfl, below_drewN' fb.out _⟩
    · have n1 : (sw == 1) = false := by simpa using fun h => h2 (.inl h)
      have n2 : (sw == -1) = false := by simpa using fun h => h2 (.inr h)
      have HB : Aside0 (spotB n ⟨i, sa, sw⟩ = false) := ⟨by unfold spotB; simp only [n1, n2, Bool.or_false, Bool.and_false, Bool.false_and]⟩
      clear h1 h1' h2
      go_enter Try.func129, Try.ntmps129
      go_wp2
      go_quiet (first | (go_at_call_of 119 (Value.int .i64 (i : Int)); exact Calls.quiet_of_same (l1in_is _ _ _ _ H1.out _)) | (go_at_call_of 119 (Value.int .i64 sa); exact Calls.quiet_of_same (l1in_is _ _ _ _ rfl _)))
      go_wp2
      go_ret
      exact ⟨by rw [HB.out]; rfl, below_drewN' (below_two _ _ _) _⟩
theorem pieceB_len {p : PieceT} (h : pieceB p = true) : 1 ≤ p.len ∧ p.len ≤ 10000000 := by
  unfold pieceB at h
  simp only [Bool.and_eq_true] at h
  exact inB_true.1 h.1.1.2
set_option maxRecDepth 100000 in
set_option maxHeartbeats 1000000 in
theorem spotOk_any (n : NetT) (u : (Option Addr × Nat) × (Option Addr × Nat)) (s : SpotT) (w : World) (hr : RdNet 67 w u n) :
    Calls Try.prog 131 #[.agg #[.slice u.1.1 n.pieces.length u.1.2, .slice u.2.1 n.joints.length u.2.2], .agg #[.int .i64 s.piece, .int .i64 s.at_, .int .i64 s.way]] w
      fun e w' => e = .returned (.bool (spotB n s)) ∧ Below w.heap.size w w' := by
  have hm := hr.1.1.2.1
  have HR := Aside0.mk hr.1.1
  clear hr
  obtain ⟨⟨A0, c0⟩, ⟨A1, c1⟩⟩ := u
  obtain ⟨sp, sa, sw⟩ := s
  simp only at HR ⊢
  obtain ⟨W0, hW0⟩ : ∃ W0 : World, W0 = (w.alloc (.cells #[.slice A0 n.pieces.length c0, .slice A1 n.joints.length c1] 35)).alloc (.cells #[.int .i64 sp, .int .i64 sa, .int .i64 sw] 38) := ⟨_, rfl⟩
  have n0 : W0.cell? ⟨w.heap.size, 0, none⟩ = some (.slice A0 n.pieces.length c0) := by rw [hW0]; go_simp
  have m0 : W0.cell? ⟨w.heap.size + 1, 0, none⟩ = some (.int .i64 sp) := by rw [hW0]; go_simp
  have m1 : W0.cell? ⟨w.heap.size + 1, 1, none⟩ = some (.int .i64 sa) := by rw [hW0]; go_simp
  have m2 : W0.cell? ⟨w.heap.size + 1, 2, none⟩ = some (.int .i64 sw) := by rw [hW0]; go_simp
  have fb := Aside0.mk (show Below w.heap.size w W0 by rw [hW0]; exact below_two _ _ _)
  have HW := Aside0.mk hW0
  clear hW0
  by_cases h0 : 0 ≤ sp
  · obtain ⟨i, hi⟩ := Int.eq_ofNat_of_zero_le h0
    subst hi
    clear h0
    have d0 : decide ((0 : Int) ≤ (i : Int)) = true := by simp
    by_cases hlt : i < n.pieces.length
    · have d1 : decide ((i : Int) < (n.pieces.length : Int)) = true := by simpa using hlt
      obtain ⟨ad0, e0, y0, y1, y2, y3⟩ := at_Piece HR.out i hlt
      subst e0
      have h1 : inB (i : Int) 0 ((n.pieces.length : Int) - 1) = true := inB_true.2 (by omega)
      have HB : Aside0 (spotB n ⟨i, sa, sw⟩ = ((sw == 1 || sw == -1) && inB sa 0 (n.pieces.getD i default).len)) := ⟨by
        unfold spotB
        simp only [h1, Bool.true_and, Int.toNat_natCast]⟩
      obtain ⟨p, hp⟩ : ∃ p, p = n.pieces.getD i default := ⟨_, rfl⟩
      rw [← hp] at y0 y1 y2 y3 HB
      clear hp h1 y0 y2 y3
      replace y1 := pw_cell_below fb.out y1
      have b0 : (0 : Int) ≤ (i : Int) := by omega
      have b1 : (i : Int) < (n.pieces.length : Int) := by omega
      by_cases h2 : 0 ≤ sa
      · have d2 : decide ((0 : Int) ≤ sa) = true := by simpa using h2
        by_cases h3 : sa ≤ p.len
        · have d3 : decide (sa ≤ p.len) = true := by simpa using h3
          have HB2 : Aside0 (spotB n ⟨i, sa, sw⟩ = (sw == 1 || sw == -1)) := ⟨by rw [HB.out, inB_true.2 ⟨h2, h3⟩, Bool.and_true]⟩
          clear h2 h3
          cases hw1 : (sw == 1) with
          | true =>
            have HB3 : Aside0 (spotB n ⟨i, sa, sw⟩ = true) := ⟨by rw [HB2.out, hw1]; rfl⟩
            go_enter Try.func131, Try.ntmps131
            go_wp2
            rw [← HW.out]
            go_quiet (fail)
            go_wp2
            go_ret
            exact ⟨by rw [HB3.out]; rfl, below_drewN' fb.out _⟩
          | false =>
            have HB3 : Aside0 (spotB n ⟨i, sa, sw⟩ = (sw == -1)) := ⟨by rw [HB2.out, hw1]; rfl⟩
            go_enter Try.func131, Try.ntmps131
            go_wp2
            rw [← HW.out]
            go_quiet (fail)
            go_wp2
            go_ret
            exact ⟨by rw [HB3.out]; rfl, below_drewN' fb.out _⟩
        · have d3 : decide (sa ≤ p.len) = false := by simpa using h3
          have HB2 : Aside0 (spotB n ⟨i, sa, sw⟩ = false) := ⟨by rw [HB.out, inB_false.2 (fun h => h3 h.2), Bool.and_false]⟩
          clear h2 h3
          go_enter Try.func131, Try.ntmps131
          go_wp2
          rw [← HW.out]
          go_quiet (fail)
          go_wp2
          go_ret
          exact ⟨by rw [HB2.out]; rfl, below_drewN' fb.out _⟩
      · have d2 : decide ((0 : Int) ≤ sa) = false := by simpa using h2
        have HB2 : Aside0 (spotB n ⟨i, sa, sw⟩ = false) := ⟨by rw [HB.out, inB_false.2 (fun h => h2 h.1), Bool.and_false]⟩
        clear h2
        go_enter Try.func131, Try.ntmps131
        go_wp2
        rw [← HW.out]
        go_quiet (fail)
        go_wp2
        go_ret
        exact ⟨by rw [HB2.out]; rfl, below_drewN' fb.out _⟩
    · have d1 : decide ((i : Int) < (n.pieces.length : Int)) = false := by simpa using hlt
      have HB2 : Aside0 (spotB n ⟨i, sa, sw⟩ = false) := ⟨by unfold spotB; rw [inB_false.2 (show ¬ (0 ≤ (i : Int) ∧ (i : Int) ≤ (n.pieces.length : Int) - 1) by omega)]; rfl⟩
      go_enter Try.func131, Try.ntmps131
      go_wp2
      rw [← HW.out]
      go_quiet (fail)
      go_wp2
      go_ret
      exact ⟨by rw [HB2.out]; rfl, below_drewN' fb.out _⟩
  · have d0 : decide ((0 : Int) ≤ sp) = false := by simpa using h0
    have HB2 : Aside0 (spotB n ⟨sp, sa, sw⟩ = false) := ⟨by unfold spotB; rw [inB_false.2 (show ¬ (0 ≤ sp ∧ sp ≤ (n.pieces.length : Int) - 1) by omega)]; rfl⟩
    clear h0
    go_enter Try.func131, Try.ntmps131
    go_wp2
    rw [← HW.out]
    go_quiet (fail)
    go_wp2
    go_ret
    exact ⟨by rw [HB2.out]; rfl, below_drewN' fb.out _⟩
def spotOkB (n : NetT) (s : SpotT) : Bool := netGood n && spotB n s
end Go.Proofs.Ytckcffjnffcjcaa
