/- One round of the lies of a row of steps, in plain lists. No program in sight, no conditions. -/
import Derived.Test.YtckcffjnffcjcaaPlLaw
set_option linter.unusedVariables false
set_option linter.unusedSimpArgs false
namespace Go.Proofs.Ytckcffjnffcjcaa
/-- The rest of the row from place j on: what is still to be told. -/
def PI (n : NetT) (l : List StepT) (j : Nat) (out : List LieT) : Prop := 1 ≤ j ∧ out.length + 1 ≤ j ∧ liesAll n l = liesGo n (l.getD (j - 1) default) (l.drop j) out
theorem PI.start (n : NetT) (l : List StepT) : PI n l 1 [] := by
  refine ⟨Nat.le_refl _, by simp, ?_⟩
  cases l with
  | nil => rfl
  | cons s l => rfl
theorem PI.stop {n : NetT} {l : List StepT} {j : Nat} {out : List LieT} (h : PI n l j out) (hj : l.length ≤ j) : liesAll n l = some out := by
  rw [h.2.2, List.drop_eq_nil_of_le hj]; rfl
theorem drop_getD (l : List StepT) (j : Nat) (hj : j < l.length) : l.drop j = l.getD j default :: l.drop (j + 1) := by
  rw [List.drop_eq_getElem_cons hj, getD_at l j hj]
theorem PI.fail {n : NetT} {l : List StepT} {j : Nat} {out : List LieT} (h : PI n l j out) (hj : j < l.length) (hs : stepLie n (l.getD (j - 1) default) (l.getD j default) = none) : liesAll n l = none := by
  rw [h.2.2, drop_getD l j hj]
  simp only [liesGo, hs]
theorem PI.skip {n : NetT} {l : List StepT} {j : Nat} {out : List LieT} (h : PI n l j out) (hj : j < l.length) (hs : stepLie n (l.getD (j - 1) default) (l.getD j default) = some none) : PI n l (j + 1) out := by
  refine ⟨by omega, by have := h.2.1; omega, ?_⟩
  rw [h.2.2, drop_getD l j hj]
  simp only [liesGo, hs, Nat.add_sub_cancel]
theorem PI.bad {n : NetT} {l : List StepT} {j : Nat} {out : List LieT} {x : LieT} (h : PI n l j out) (hj : j < l.length) (hs : stepLie n (l.getD (j - 1) default) (l.getD j default) = some (some x)) (ha : addLie out x = none) : liesAll n l = none := by
  rw [h.2.2, drop_getD l j hj]
  simp only [liesGo, hs, ha]
theorem PI.add {n : NetT} {l : List StepT} {j : Nat} {out o : List LieT} {x : LieT} (h : PI n l j out) (hj : j < l.length) (hs : stepLie n (l.getD (j - 1) default) (l.getD j default) = some (some x)) (ha : addLie out x = some o) : PI n l (j + 1) o := by
  refine ⟨by omega, by have := addLie_len ha; have := h.2.1; omega, ?_⟩
  rw [h.2.2, drop_getD l j hj]
  simp only [liesGo, hs, ha, Nat.add_sub_cancel]
end Go.Proofs.Ytckcffjnffcjcaa
