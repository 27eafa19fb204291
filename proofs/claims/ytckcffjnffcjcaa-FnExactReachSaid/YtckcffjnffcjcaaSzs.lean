/- Contracts of the laws' functions that hold the size of an argument against a bound: what is left of the bound, or -1. They ask 0 ≤ left ≤ 1048576. -/
import Derived.Test.YtckcffjnffcjcaaLib
set_option linter.unusedVariables false
set_option linter.unusedSimpArgs false
namespace Go.Proofs.Ytckcffjnffcjcaa
open Go.RowKit Go.Proofs.YtckcffjnffcjcaaW.PrintWords
/-- What is left, or -1. -/
def cutZ (x : Int) : Int := if x < 0 then -1 else x
theorem cutZ_neg {x : Int} (h : x < 0) : cutZ x = -1 := if_pos h
theorem cutZ_pos {x : Int} (h : 0 ≤ x) : cutZ x = x := if_neg (by omega)
def wName (p : PieceT) : Nat := p.name.size
def wPieces (l : List PieceT) : Nat := l.length + (l.map wName).sum
def wJoint (j : JointT) : Nat := j.name.size + j.ends.length
def wJoints (l : List JointT) : Nat := l.length + (l.map wJoint).sum
def wNet (n : NetT) : Nat := wPieces n.pieces + wJoints n.joints
theorem sum_take_le {α : Type} (f : α → Nat) : ∀ (l : List α) (i : Nat), ((l.take i).map f).sum ≤ (l.map f).sum
  | [], i => by simp
  | a :: l, 0 => by simp
  | a :: l, i + 1 => by simp only [List.take_succ_cons, List.map_cons, List.sum_cons]; have := sum_take_le f l i; omega
theorem sum_take_succ {α : Type} [Inhabited α] (f : α → Nat) (l : List α) (i : Nat) (h : i < l.length) : ((l.take (i + 1)).map f).sum = ((l.take i).map f).sum + f (l.getD i default) := by
  rw [take_getD l i h]; simp

theorem szPartS_any (A : Option Addr) (c l : Nat) (left : Int) (w : World) (h0 : 0 ≤ left) (h1 : left ≤ 1048576) (hm : l ≤ 9223372036854775807) :
    Calls Try.prog 26 #[.slice A l c, .int .i64 left] w fun e w' => e = .returned (.int .i64 (cutZ (left - l))) ∧ w = w' := by
  by_cases h : left - (l : Int) < 0
  · go_enter Try.func26, Try.ntmps26
    go_wp2
    go_ret
    exact ⟨by rw [cutZ_neg h]; rfl, rfl⟩
  · go_enter Try.func26, Try.ntmps26
    go_wp2
    go_ret
    exact ⟨by rw [cutZ_pos (by omega)]; rfl, rfl⟩
theorem szStepS_any (A : Option Addr) (c l : Nat) (left : Int) (w : World) (h0 : 0 ≤ left) (h1 : left ≤ 1048576) (hm : l ≤ 9223372036854775807) :
    Calls Try.prog 74 #[.slice A l c, .int .i64 left] w fun e w' => e = .returned (.int .i64 (cutZ (left - l))) ∧ w = w' := by
  by_cases h : left - (l : Int) < 0
  · go_enter Try.func74, Try.ntmps74
    go_wp2
    go_ret
    exact ⟨by rw [cutZ_neg h]; rfl, rfl⟩
  · go_enter Try.func74, Try.ntmps74
    go_wp2
    go_ret
    exact ⟨by rw [cutZ_pos (by omega)]; rfl, rfl⟩
theorem szLieS_any (A : Option Addr) (c l : Nat) (left : Int) (w : World) (h0 : 0 ≤ left) (h1 : left ≤ 1048576) (hm : l ≤ 9223372036854775807) :
    Calls Try.prog 159 #[.slice A l c, .int .i64 left] w fun e w' => e = .returned (.int .i64 (cutZ (left - l))) ∧ w = w' := by
  by_cases h : left - (l : Int) < 0
  · go_enter Try.func159, Try.ntmps159
    go_wp2
    go_ret
    exact ⟨by rw [cutZ_neg h]; rfl, rfl⟩
  · go_enter Try.func159, Try.ntmps159
    go_wp2
    go_ret
    exact ⟨by rw [cutZ_pos (by omega)]; rfl, rfl⟩
theorem szEndS_any (A : Option Addr) (c l : Nat) (left : Int) (w : World) (h0 : 0 ≤ left) (h1 : left ≤ 1048576) (hm : l ≤ 9223372036854775807) :
    Calls Try.prog 190 #[.slice A l c, .int .i64 left] w fun e w' => e = .returned (.int .i64 (cutZ (left - l))) ∧ w = w' := by
  by_cases h : left - (l : Int) < 0
  · go_enter Try.func190, Try.ntmps190
    go_wp2
    go_ret
    exact ⟨by rw [cutZ_neg h]; rfl, rfl⟩
  · go_enter Try.func190, Try.ntmps190
    go_wp2
    go_ret
    exact ⟨by rw [cutZ_pos (by omega)]; rfl, rfl⟩
theorem szPiece_any (p : PieceT) (left : Int) (w : World) (h0 : 0 ≤ left) (h1 : left ≤ 1048576) (hm : p.name.size ≤ 9223372036854775807) :
    Calls Try.prog 173 #[.agg #[.string p.name, .int .i64 p.len, .int .i64 p.speed, .int .i64 p.brake], .int .i64 left] w
      fun e w' => e = .returned (.int .i64 (cutZ (left - wName p))) ∧ Below w.heap.size w w' := by
  by_cases h : left - (p.name.size : Int) < 0
  · go_enter Try.func173, Try.ntmps173
    go_wp2
    go_ret
    exact ⟨by rw [cutZ_neg (by unfold wName; exact h)]; rfl, below_alloc (Below.refl _ _) _⟩
  · go_enter Try.func173, Try.ntmps173
    go_wp2
    go_ret
    exact ⟨by rw [cutZ_pos (by unfold wName; omega)]; rfl, below_alloc (Below.refl _ _) _⟩
theorem szJoint_any (j : JointT) (A : Option Addr) (c : Nat) (left : Int) (w : World) (h0 : 0 ≤ left) (h1 : left ≤ 1048576) (hm : j.name.size ≤ 9223372036854775807) (hl : j.ends.length ≤ 9223372036854775807) :
    Calls Try.prog 174 #[.agg #[.int .i64 j.kind, .string j.name, .slice A j.ends.length c], .int .i64 left] w
      fun e w' => e = .returned (.int .i64 (cutZ (left - wJoint j))) ∧ Below w.heap.size w w' := by
  by_cases h : left - (j.name.size : Int) < 0
  · go_enter Try.func174, Try.ntmps174
    go_wp2
    go_ret
    exact ⟨by rw [cutZ_neg (by unfold wJoint; omega)]; rfl, below_alloc (Below.refl _ _) _⟩
  · by_cases h2 : left - (j.name.size : Int) - (j.ends.length : Int) < 0
    · have e1 := Aside0.mk (cutZ_neg h2)
      have e2 := Aside0.mk (cutZ_neg (x := left - wJoint j) (by unfold wJoint; omega))
      go_enter Try.func174, Try.ntmps174
      go_wp2_with (go_at_call 190; refine (szEndS_any _ _ _ _ _ (by omega) (by omega) hl).mono ?_; rintro e w1 ⟨rfl, rfl⟩; rw [e1.out])
      go_ret
      exact ⟨by rw [e2.out]; rfl, below_alloc (Below.refl _ _) _⟩
    · have e1 := Aside0.mk (cutZ_pos (x := left - (j.name.size : Int) - (j.ends.length : Int)) (by omega))
      have e2 := Aside0.mk (cutZ_pos (x := left - wJoint j) (by unfold wJoint; omega))
      go_enter Try.func174, Try.ntmps174
      go_wp2_with (go_at_call 190; refine (szEndS_any _ _ _ _ _ (by omega) (by omega) hl).mono ?_; rintro e w1 ⟨rfl, rfl⟩; rw [e1.out])
      go_ret
      exact ⟨by rw [e2.out]; unfold wJoint; exact congrArg (fun z => Ending.returned (Value.int .i64 z)) (by omega), below_alloc (Below.refl _ _) _⟩
theorem szPieceS_any (A : Option Addr) (c : Nat) (l : List PieceT) (left : Int) (w : World) (h0 : 0 ≤ left) (h1 : left ≤ 1048576) (hr : Kd.C kPiece w A l.length l) (hg : ∀ x ∈ l, x.name.size ≤ 9223372036854775807) :
    Calls Try.prog 116 #[.slice A l.length c, .int .i64 left] w
      fun e w' => e = .returned (.int .i64 (cutZ (left - wPieces l))) ∧ Below w.heap.size w w' := by
  have hm := hr.2.1
  have HR := Aside0.mk hr
  have HG := Aside0.mk hg
  clear hr hg
  by_cases h : left - (l.length : Int) < 0
  · have e2 := Aside0.mk (cutZ_neg (x := left - wPieces l) (by unfold wPieces; omega))
    go_enter Try.func116, Try.ntmps116
    go_wp2
    go_ret
    exact ⟨by rw [e2.out]; rfl, Below.refl _ _⟩
  · go_enter Try.func116, Try.ntmps116
    go_wp2
    go_loopw [1, 5] (fun v1 v5 wr => ∃ (i : Nat) (y : Int), v5 = .int .i64 i ∧ i ≤ l.length ∧ v1 = .int .i64 y ∧ 0 ≤ y ∧ Aside0 (y = left - l.length - ((l.take i).map wName).sum) ∧ Aside0 (Below w.heap.size w wr)) (fun _ v5 _ => l.length - (intOf v5).toNat)
    case atStart => exact ⟨0, _, rfl, Nat.zero_le _, rfl, by omega, ⟨by simp⟩, ⟨Below.refl _ _⟩⟩
    case round =>
      obtain ⟨i, y, rfl, hi, rfl, hy, HT, HB⟩ := hrel
      have hy1 : y ≤ 1048576 := by have := HT.out; omega
      by_cases hlt : i < l.length
      · obtain ⟨ad0, e0, x0, x1, x2, x3⟩ := at_Piece HR.out i hlt
        subst e0
        have S1 := Aside0.mk (sum_take_succ wName l i hlt)
        have S2 := Aside0.mk (sum_take_le wName l (i + 1))
        have HX := Aside0.mk (HG.out _ (getD_mem l i hlt))
        obtain ⟨p, hp⟩ : ∃ p, p = l.getD i default := ⟨_, rfl⟩
        rw [← hp] at x0 x1 x2 S1 HX
        rw [← hp] at x3
        clear hp
        replace x0 := pw_cell_below HB.out x0
        replace x1 := pw_cell_below HB.out x1
        replace x2 := pw_cell_below HB.out x2
        replace x3 := pw_cell_below HB.out x3
        by_cases h2 : y - (wName p : Int) < 0
        · have e1 := Aside0.mk (cutZ_neg h2)
          have e2 := Aside0.mk (cutZ_neg (x := left - wPieces l) (by unfold wPieces; have := HT.out; have := S1.out; have := S2.out; omega))
          go_wp2_with (go_at_call 173; refine (szPiece_any _ _ _ (by omega) (by omega) HX.out).mono ?_; rintro e w3 ⟨rfl, hb3⟩; rw [e1.out])
          go_ret
          exact ⟨by rw [e2.out]; rfl, below_more HB.out hb3⟩
        · have e1 := Aside0.mk (cutZ_pos (x := y - wName p) (by omega))
          obtain ⟨z, hz⟩ : ∃ z, z = y - (wName p : Int) := ⟨_, rfl⟩
          have hz0 : 0 ≤ z := by omega
          rw [← hz] at e1
          have HZ := Aside0.mk hz
          rw [hz] at e1
          rw [← hz] at e1
          clear hz
          go_wp2_with (go_at_call 173; refine (szPiece_any _ _ _ (by omega) (by omega) HX.out).mono ?_; rintro e w3 ⟨rfl, hb3⟩; rw [← HZ.out, e1.out])
          go_roundw
          case rel => exact ⟨i + 1, z, by go_num, by omega, rfl, hz0, ⟨by have := HT.out; have := S1.out; have := HZ.out; omega⟩, ⟨below_more HB.out hb3⟩⟩
          case measure => simp [intOf]; omega
      · have e2 := Aside0.mk (cutZ_pos (x := left - wPieces l) (by unfold wPieces; have := HT.out; rw [List.take_of_length_le (by omega)] at this; omega))
        go_wp2
        go_ret
        exact ⟨by rw [e2.out]; unfold wPieces; have := HT.out; rw [List.take_of_length_le (by omega)] at this; exact congrArg (fun z => Ending.returned (Value.int .i64 z)) (by omega), HB.out⟩
theorem szJointS_any (A : Option Addr) (c : Nat) (l : List JointT) (left : Int) (w : World) (h0 : 0 ≤ left) (h1 : left ≤ 1048576) (hr : Kd.C (kJoint 65) w A l.length l) (hg : ∀ x ∈ l, x.name.size ≤ 9223372036854775807 ∧ x.ends.length ≤ 9223372036854775807) :
    Calls Try.prog 117 #[.slice A l.length c, .int .i64 left] w
      fun e w' => e = .returned (.int .i64 (cutZ (left - wJoints l))) ∧ Below w.heap.size w w' := by
  have hm := hr.2.1
  have HR := Aside0.mk hr
  have HG := Aside0.mk hg
  clear hr hg
  by_cases h : left - (l.length : Int) < 0
  · have e2 := Aside0.mk (cutZ_neg (x := left - wJoints l) (by unfold wJoints; omega))
    go_enter Try.func117, Try.ntmps117
    go_wp2
    go_ret
    exact ⟨by rw [e2.out]; rfl, Below.refl _ _⟩
  · go_enter Try.func117, Try.ntmps117
    go_wp2
    go_loopw [1, 5] (fun v1 v5 wr => ∃ (i : Nat) (y : Int), v5 = .int .i64 i ∧ i ≤ l.length ∧ v1 = .int .i64 y ∧ 0 ≤ y ∧ Aside0 (y = left - l.length - ((l.take i).map wJoint).sum) ∧ Aside0 (Below w.heap.size w wr)) (fun _ v5 _ => l.length - (intOf v5).toNat)
    case atStart => exact ⟨0, _, rfl, Nat.zero_le _, rfl, by omega, ⟨by simp⟩, ⟨Below.refl _ _⟩⟩
    case round =>
      obtain ⟨i, y, rfl, hi, rfl, hy, HT, HB⟩ := hrel
      have hy1 : y ≤ 1048576 := by have := HT.out; omega
      by_cases hlt : i < l.length
      · obtain ⟨ad0, B0, k0, e0, x0, x1, x2, m0, g0⟩ := at_Joint HR.out i hlt
        subst e0
        have S1 := Aside0.mk (sum_take_succ wJoint l i hlt)
        have S2 := Aside0.mk (sum_take_le wJoint l (i + 1))
        have HX := Aside0.mk (HG.out _ (getD_mem l i hlt))
        obtain ⟨p, hp⟩ : ∃ p, p = l.getD i default := ⟨_, rfl⟩
        rw [← hp] at x0 x1 x2 S1 HX
        clear m0 g0
        clear hp
        replace x0 := pw_cell_below HB.out x0
        replace x1 := pw_cell_below HB.out x1
        replace x2 := pw_cell_below HB.out x2
        by_cases h2 : y - (wJoint p : Int) < 0
        · have e1 := Aside0.mk (cutZ_neg h2)
          have e2 := Aside0.mk (cutZ_neg (x := left - wJoints l) (by unfold wJoints; have := HT.out; have := S1.out; have := S2.out; omega))
          go_wp2_with (go_at_call 174; refine (szJoint_any _ _ _ _ _ (by omega) (by omega) HX.out.1 HX.out.2).mono ?_; rintro e w3 ⟨rfl, hb3⟩; rw [e1.out])
          go_ret
          exact ⟨by rw [e2.out]; rfl, below_more HB.out hb3⟩
        · have e1 := Aside0.mk (cutZ_pos (x := y - wJoint p) (by omega))
          obtain ⟨z, hz⟩ : ∃ z, z = y - (wJoint p : Int) := ⟨_, rfl⟩
          have hz0 : 0 ≤ z := by omega
          rw [← hz] at e1
          have HZ := Aside0.mk hz
          rw [hz] at e1
          rw [← hz] at e1
          clear hz
          go_wp2_with (go_at_call 174; refine (szJoint_any _ _ _ _ _ (by omega) (by omega) HX.out.1 HX.out.2).mono ?_; rintro e w3 ⟨rfl, hb3⟩; rw [← HZ.out, e1.out])
          go_roundw
          case rel => exact ⟨i + 1, z, by go_num, by omega, rfl, hz0, ⟨by have := HT.out; have := S1.out; have := HZ.out; omega⟩, ⟨below_more HB.out hb3⟩⟩
          case measure => simp [intOf]; omega
      · have e2 := Aside0.mk (cutZ_pos (x := left - wJoints l) (by unfold wJoints; have := HT.out; rw [List.take_of_length_le (by omega)] at this; omega))
        go_wp2
        go_ret
        exact ⟨by rw [e2.out]; unfold wJoints; have := HT.out; rw [List.take_of_length_le (by omega)] at this; exact congrArg (fun z => Ending.returned (Value.int .i64 z)) (by omega), HB.out⟩
theorem szNet_any (n : NetT) (u : (Option Addr × Nat) × (Option Addr × Nat)) (left : Int) (w : World) (h0 : 0 ≤ left) (h1 : left ≤ 1048576) (hr : RdNet 65 w u n)
    (hp : ∀ x ∈ n.pieces, x.name.size ≤ 9223372036854775807) (hj : ∀ x ∈ n.joints, x.name.size ≤ 9223372036854775807 ∧ x.ends.length ≤ 9223372036854775807) :
    Calls Try.prog 41 #[.agg #[.slice u.1.1 n.pieces.length u.1.2, .slice u.2.1 n.joints.length u.2.2], .int .i64 left] w
      fun e w' => e = .returned (.int .i64 (cutZ (left - wNet n))) ∧ Below w.heap.size w w' := by
  have P0 := Aside0.mk hr.1.1
  have J0 := Aside0.mk hr.2.1
  have HP := Aside0.mk hp
  have HJ := Aside0.mk hj
  clear hr hp hj
  obtain ⟨⟨A0, c0⟩, ⟨A1, c1⟩⟩ := u
  by_cases h : left - (wPieces n.pieces : Int) < 0
  · have e1 := Aside0.mk (cutZ_neg h)
    have e2 := Aside0.mk (cutZ_neg (x := left - wNet n) (by unfold wNet; omega))
    go_enter Try.func41, Try.ntmps41
    go_wp2_with (go_at_call 116; refine (szPieceS_any _ _ _ _ _ h0 h1 (Kd.C_below P0.out (below_alloc (Below.refl _ _) _)) HP.out).mono ?_; rintro e w3 ⟨rfl, hb3⟩; rw [e1.out])
    go_ret
    exact ⟨by rw [e2.out]; rfl, below_more (below_alloc (Below.refl _ _) _) hb3⟩
  · have e1 := Aside0.mk (cutZ_pos (x := left - wPieces n.pieces) (by omega))
    obtain ⟨z, hz⟩ : ∃ z, z = left - (wPieces n.pieces : Int) := ⟨_, rfl⟩
    have hz0 : 0 ≤ z := by omega
    have hz1 : z ≤ 1048576 := by omega
    rw [← hz] at e1
    have HZ := Aside0.mk hz
    clear hz
    by_cases h2 : z - (wJoints n.joints : Int) < 0
    · have e3 := Aside0.mk (cutZ_neg h2)
      have e2 := Aside0.mk (cutZ_neg (x := left - wNet n) (by unfold wNet; have := HZ.out; omega))
      go_enter Try.func41, Try.ntmps41
      go_wp2_with (first | (go_at_call 116; refine (szPieceS_any _ _ _ _ _ h0 h1 (Kd.C_below P0.out (below_alloc (Below.refl _ _) _)) HP.out).mono ?_; rintro e w3 ⟨rfl, hb3⟩; rw [← HZ.out, e1.out]; obtain ⟨hc3, hf3⟩ := bcell hb3; have H3 := Aside0.mk (below_more (below_alloc (Below.refl _ _) _) hb3); clear hb3) | (go_at_call 117; refine (szJointS_any _ _ _ _ _ hz0 hz1 (Kd.C_below J0.out H3.out) HJ.out).mono ?_; rintro e w4 ⟨rfl, hb4⟩; rw [e3.out]))
      go_ret
      exact ⟨by rw [e2.out]; rfl, below_more H3.out hb4⟩
    · have e3 := Aside0.mk (cutZ_pos (x := z - wJoints n.joints) (by omega))
      have e2 := Aside0.mk (cutZ_pos (x := left - wNet n) (by unfold wNet; have := HZ.out; omega))
      go_enter Try.func41, Try.ntmps41
      go_wp2_with (first | (go_at_call 116; refine (szPieceS_any _ _ _ _ _ h0 h1 (Kd.C_below P0.out (below_alloc (Below.refl _ _) _)) HP.out).mono ?_; rintro e w3 ⟨rfl, hb3⟩; rw [← HZ.out, e1.out]; obtain ⟨hc3, hf3⟩ := bcell hb3; have H3 := Aside0.mk (below_more (below_alloc (Below.refl _ _) _) hb3); clear hb3) | (go_at_call 117; refine (szJointS_any _ _ _ _ _ hz0 hz1 (Kd.C_below J0.out H3.out) HJ.out).mono ?_; rintro e w4 ⟨rfl, hb4⟩; rw [e3.out]))
      go_ret
      exact ⟨by rw [e2.out]; unfold wNet; exact congrArg (fun z => Ending.returned (Value.int .i64 z)) (by have := HZ.out; omega), below_more H3.out hb4⟩
end Go.Proofs.Ytckcffjnffcjcaa
