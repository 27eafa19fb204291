/- Stretches in plain lists: what is answered. No program in sight, no conditions. -/
import Derived.Test.YtckcffjnffcjcaaPlLaw
set_option linter.unusedVariables false
set_option linter.unusedSimpArgs false
namespace Go.Proofs.Ytckcffjnffcjcaa
def stepOf (s : SpotT) : StepT := ⟨s.piece, s.way⟩
theorem stepOf_ok {n : NetT} {s : SpotT} (h : spotB n s = true) : stepB n (stepOf s) = true := by
  have := spotB_iff.1 h
  rw [stepB_iff]
  unfold stepOf
  exact ⟨this.1, this.2.1, this.2.2.1⟩
theorem head_look (s : SpotT) : headE s = lookS (stepOf s) := rfl
theorem enter_step (n : NetT) (e : EndT) : stepOf (enterS n e) = comesS e := by unfold stepOf enterS comesS; split <;> rfl
def partsGo (n : NetT) : List SpotT → Int → List PartT × Int
  | [], left => ([], left)
  | x :: l, left => (partOf x (legOf n x left) :: (partsGo n l (left - legOf n x left)).1, (partsGo n l (left - legOf n x left)).2)
def spotsOf (n : NetT) (a : SpotT) (l : List StepT) : List SpotT := a :: l.tail.map (fun s => enterS n (beginS s))
def stretchOk (n : NetT) (p : PathT) (a : SpotT) : Bool :=
  p.ok && spotOkB n a && decide (0 ≤ p.far ∧ p.far ≤ 1000000) && stepsB n p.steps && decide (p.steps.head? = some (stepOf a)) && (liesAll n p.steps).isSome
def stretchV (n : NetT) (p : PathT) (a : SpotT) : List PartT :=
  if stretchOk n p a = true then (if 0 < (partsGo n (spotsOf n a p.steps) p.far).2 then [] else (partsGo n (spotsOf n a p.steps) p.far).1) else []
theorem partsGo_len (n : NetT) : ∀ (l : List SpotT) (left : Int), (partsGo n l left).1.length = l.length
  | [], _ => rfl
  | x :: l, left => by simp only [partsGo, List.length_cons]; rw [partsGo_len]
theorem stretchV_len (n : NetT) (p : PathT) (a : SpotT) : (stretchV n p a).length ≤ 1000000000000 := by
  unfold stretchV
  split
  · rename_i h
    split
    · simp
    · rw [partsGo_len]
      unfold spotsOf
      unfold stretchOk stepsB at h
      simp only [Bool.and_eq_true, decide_eq_true_eq] at h
      have := h.1.1.2.1
      simp
      omega
  · simp
end Go.Proofs.Ytckcffjnffcjcaa
