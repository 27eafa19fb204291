/- What a good net is: plain laws on netFault. No conditions. -/
import Derived.Test.YtckcffjnffcjcaaSpot2
set_option linter.unusedVariables false
set_option linter.unusedSimpArgs false
namespace Go.Proofs.Ytckcffjnffcjcaa
open Go.RowKit Go.Proofs.YtckcffjnffcjcaaW.PrintWords
theorem range_none {p : Nat → Bool} {n : Nat} (h : (List.range n).find? p = none) : ∀ k, k < n → p k = false := fun k hk => by
  have := List.find?_eq_none.1 h k (List.mem_range.2 hk)
  simpa using this
/-- What a good net is. -/
structure Good (n : NetT) : Prop where
  p0 : n.pieces.length ≠ 0
  p1 : n.pieces.length ≤ 100
  j1 : n.joints.length ≤ 120
  pc : ∀ i, i < n.pieces.length → badPiece n i = false
  jc3 : ∀ i, i < n.joints.length → j3 n (n.joints.getD i default) = false
  jc4 : ∀ i, i < n.joints.length → j4 n i (n.joints.getD i default) = false
  us : ∀ i, i < n.pieces.length → badUse n i = false
theorem Good.of {n : NetT} (h : netGood n = true) : Good n := by
  have h0 := netGood_iff.1 h
  unfold netFault at h0
  split at h0
  · cases h0
  · rename_i ht
    split at h0
    · cases h0
    · rename_i _ h2
      split at h0
      · cases h0
      · rename_i _ h3
        split at h0
        · cases h0
        · rename_i _ h4
          split at h0
          · cases h0
          · rename_i _ h5
            unfold tooMany at ht
            simp only [Bool.or_eq_true, beq_iff_eq, decide_eq_true_eq, not_or] at ht
            have g2 := range_none h2
            have g3 := range_none h3
            have g4 := range_none h4
            have g5 := range_none h5
            have k3 : ∀ i, i < n.joints.length → j3 n (n.joints.getD i default) = false := fun i hi => by
              cases hq : j3 n (n.joints.getD i default) with
              | false => rfl
              | true => have := g3 i hi; rw [jc_three hq] at this; cases this
            refine ⟨ht.1.1, by omega, by omega, g2, k3, fun i hi => ?_, g5⟩
            cases hq : j4 n i (n.joints.getD i default) with
            | false => rfl
            | true => have := g4 i hi; rw [jc_four (k3 i hi) hq] at this; cases this
theorem Good.joint {n : NetT} (h : Good n) {j : JointT} (hj : j ∈ n.joints) : 1 ≤ j.kind ∧ j.kind ≤ 4 ∧ (j.ends.length : Int) = j.kind ∧ ∀ e ∈ j.ends, endB n e = true := by
  obtain ⟨i, hi, he⟩ := List.getElem_of_mem hj
  have h3 := h.jc3 i hi
  rw [getD_at _ _ hi, he] at h3
  unfold j3 at h3
  simp only [Bool.or_eq_false_iff, Bool.not_eq_false', bne_eq_false_iff_eq] at h3
  have hk := inB_true.1 h3.1.1
  refine ⟨hk.1, hk.2, h3.1.2, fun e he2 => ?_⟩
  have := List.any_eq_false.1 h3.2 e he2
  simpa using this
theorem Good.piece {n : NetT} (h : Good n) {p : PieceT} (hp : p ∈ n.pieces) : 1 ≤ p.len ∧ p.len ≤ 10000000 ∧ 1 ≤ p.speed ∧ p.speed ≤ 10000 ∧ 1 ≤ p.brake ∧ p.brake ≤ 1000 := by
  obtain ⟨i, hi, he⟩ := List.getElem_of_mem hp
  have h3 := h.pc i hi
  unfold badPiece at h3
  rw [getD_at _ _ hi, he] at h3
  simp only [Bool.or_eq_false_iff, Bool.not_eq_false'] at h3
  have := h3.1
  unfold pieceB at this
  simp only [Bool.and_eq_true] at this
  have a := inB_true.1 this.1.1.2
  have b := inB_true.1 this.1.2
  have c := inB_true.1 this.2
  exact ⟨a.1, a.2, b.1, b.2, c.1, c.2⟩
theorem endB_iff {n : NetT} {e : EndT} : endB n e = true ↔ 0 ≤ e.piece ∧ e.piece < (n.pieces.length : Int) ∧ 0 ≤ e.side ∧ e.side ≤ 1 := by
  unfold endB
  rw [Bool.and_eq_true, inB_true, inB_true]
  omega
theorem Good.use {n : NetT} (h : Good n) {e : EndT} (he : endB n e = true) : uses n e = 1 := by
  have h0 := endB_iff.1 he
  obtain ⟨i, hi⟩ := Int.eq_ofNat_of_zero_le h0.1
  have hu := h.us i (by omega)
  unfold badUse at hu
  simp only [Bool.or_eq_false_iff, decide_eq_false_iff_not, Decidable.not_not] at hu
  obtain ⟨ep, es⟩ := e
  simp only at h0 hi
  subst hi
  have : es = 0 ∨ es = 1 := by omega
  rcases this with rfl | rfl
  · exact hu.1
  · exact hu.2
theorem Good.found {n : NetT} (h : Good n) {e : EndT} (he : endB n e = true) : e ∈ allEnds n := by
  have h1 := h.use he
  unfold uses at h1
  exact List.count_pos_iff.1 (by omega)
end Go.Proofs.Ytckcffjnffcjcaa
