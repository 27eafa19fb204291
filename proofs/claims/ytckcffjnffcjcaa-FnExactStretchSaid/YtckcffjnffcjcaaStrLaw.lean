/- Stretches in plain lists: one part more; what each guard decides. No program in sight, no conditions. -/
import Derived.Test.YtckcffjnffcjcaaStrDef
import Derived.Test.YtckcffjnffcjcaaCut0
import Derived.Test.YtckcffjnffcjcaaPl3
set_option linter.unusedVariables false
set_option linter.unusedSimpArgs false
namespace Go.Proofs.Ytckcffjnffcjcaa
open Go.RowKit Go.Proofs.YtckcffjnffcjcaaW.PrintWords in
theorem box3S (w : World) (a b c : List Value) (s t r : TypeId) : ∃ W0, W0 = ((w.alloc (.cells a.toArray s)).alloc (.cells b.toArray t)).alloc (.cells c.toArray r) ∧ Bx W0 w.heap.size a ∧ Bx W0 (w.heap.size + 1) b ∧ Bx W0 (w.heap.size + 1 + 1) c ∧ Below w.heap.size w W0 := by
  obtain ⟨W0, h0, hN, hS, fb, hz⟩ := box2 w a b s t
  refine ⟨_, rfl, ?_, ?_, ?_, ?_⟩
  · rw [← h0]; exact hN.alloc _
  · rw [← h0]; exact hS.alloc _
  · rw [← h0]; exact Bx.new' _ _ _ hz.symm
  · rw [← h0]; exact below_alloc fb _
theorem partsGo_snoc (n : NetT) (x : SpotT) : ∀ (l : List SpotT) (left : Int), partsGo n (l ++ [x]) left = ((partsGo n l left).1 ++ [partOf x (legOf n x (partsGo n l left).2)], (partsGo n l left).2 - legOf n x (partsGo n l left).2)
  | [], left => by simp [partsGo]
  | y :: l, left => by
    simp only [List.cons_append, partsGo]
    rw [partsGo_snoc n x l]
def spotAt (n : NetT) (a : SpotT) (l : List StepT) (i : Nat) : SpotT := if i = 0 then a else enterS n (beginS (l.getD i default))
theorem spotsOf_len {n : NetT} {a : SpotT} {l : List StepT} (h : 0 < l.length) : (spotsOf n a l).length = l.length := by
  unfold spotsOf; simp; omega
theorem spotsOf_at {n : NetT} {a : SpotT} {l : List StepT} {i : Nat} (h : i < l.length) : (spotsOf n a l).getD i default = spotAt n a l i := by
  unfold spotsOf spotAt
  cases i with
  | zero => rfl
  | succ i =>
    rw [if_neg (by omega), List.getD_cons_succ]
    cases l with
    | nil => simp at h
    | cons s l =>
      have hi : i < l.length := by simpa using h
      rw [List.tail_cons, List.getD_cons_succ]
      simp [List.getD, hi]
theorem spotsOf_take {n : NetT} {a : SpotT} {l : List StepT} {i : Nat} (h : i < l.length) : (spotsOf n a l).take (i + 1) = (spotsOf n a l).take i ++ [spotAt n a l i] := by
  rw [take_getD _ i (by rw [spotsOf_len (by omega)]; exact h), spotsOf_at h]
/-- The parts and what is left behind the first i spots. -/
structure SG (n : NetT) (far : Int) (a : SpotT) (l : List StepT) (i : Nat) (ps : List PartT) (left : Int) : Prop where
  is : partsGo n ((spotsOf n a l).take i) far = (ps, left)
  len : ps.length = i
  l0 : 0 ≤ left
  l1 : left ≤ 1000000
theorem SG.start {n : NetT} {far : Int} {a : SpotT} {l : List StepT} (h0 : 0 ≤ far) (h1 : far ≤ 1000000) : SG n far a l 0 [] far := ⟨rfl, rfl, h0, h1⟩
theorem SG.next {n : NetT} {far : Int} {a : SpotT} {l : List StepT} {i : Nat} {ps : List PartT} {left : Int} (h : SG n far a l i ps left) (hi : i < l.length) {x : SpotT} (hx : x = spotAt n a l i) (hr : 0 ≤ roomS n x) :
    SG n far a l (i + 1) (ps ++ [partOf x (legOf n x left)]) (left - legOf n x left) := by
  have h0 := h.l0
  have h1 := h.l1
  refine ⟨?_, by rw [List.length_append, h.len]; rfl, by unfold legOf; omega, by unfold legOf; omega⟩
  rw [spotsOf_take hi, partsGo_snoc, h.is, ← hx]
theorem SG.stop {n : NetT} {far : Int} {a : SpotT} {l : List StepT} {i : Nat} {ps : List PartT} {left : Int} (h : SG n far a l i ps left) (hl : 0 < l.length) (hi : l.length ≤ i) : partsGo n (spotsOf n a l) far = (ps, left) := by
  have := h.is
  rwa [List.take_of_length_le (by rw [spotsOf_len hl]; exact hi)] at this
theorem spotAt_ok {n : NetT} (hg : Good n) {a : SpotT} (ha : spotB n a = true) {l : List StepT} (hl : stepsB n l = true) {i : Nat} (hi : i < l.length) : spotB n (spotAt n a l i) = true ∧ (i ≠ 0 → endB n (beginS (l.getD i default)) = true) := by
  have hall : stepB n (l.getD i default) = true := by
    unfold stepsB at hl
    simp only [Bool.and_eq_true, List.all_eq_true] at hl
    exact hl.2 _ (getD_mem l i hi)
  have hb := beginS_ok hall
  refine ⟨?_, fun _ => hb⟩
  unfold spotAt
  split
  · exact ha
  · exact enterS_ok hg hb
theorem spotAt_piece {n : NetT} {a : SpotT} {l : List StepT} (h0 : l.getD 0 default = stepOf a) {i : Nat} : (spotAt n a l i).piece = (l.getD i default).piece := by
  unfold spotAt
  split
  · rename_i h; subst h; rw [h0]; rfl
  · rw [enterS_piece]; rfl
section
variable {n : NetT} {p : PathT} {a : SpotT}
theorem stretch_bad (h : stretchOk n p a = false) : stretchV n p a = [] := by unfold stretchV; rw [h]; rfl
theorem str_ok (h : p.ok = false) : stretchV n p a = [] := stretch_bad (by unfold stretchOk; rw [h]; simp)
theorem str_good (h : netGood n = false) : stretchV n p a = [] := stretch_bad (by unfold stretchOk spotOkB; rw [h]; simp)
theorem str_spot (h : spotB n a = false) : stretchV n p a = [] := stretch_bad (by unfold stretchOk spotOkB; rw [h]; simp)
theorem str_far (h : ¬ (0 ≤ p.far ∧ p.far ≤ 1000000)) : stretchV n p a = [] := stretch_bad (by unfold stretchOk; rw [decide_eq_false h]; simp)
theorem str_nil (h : p.steps.length = 0) : stretchV n p a = [] := stretch_bad (by
  have : p.steps = [] := List.eq_nil_of_length_eq_zero h
  unfold stretchOk; rw [this]; simp)
theorem head_getD {l : List StepT} (h : 0 < l.length) : l.head? = some (l.getD 0 default) := by
  cases l with
  | nil => simp at h
  | cons s l => rfl
theorem str_head (h0 : 0 < p.steps.length) (h : p.steps.getD 0 default ≠ stepOf a) : stretchV n p a = [] := stretch_bad (by
  unfold stretchOk
  rw [head_getD h0, decide_eq_false (p := some (p.steps.getD 0 default) = some (stepOf a)) (fun e => h (by injection e))]
  simp)
theorem str_lies (h : plOk n p.steps = false) : stretchV n p a = [] := stretch_bad (by
  unfold plOk at h
  unfold stretchOk
  cases h1 : stepsB n p.steps with
  | false => simp
  | true =>
    rw [h1, Bool.true_and] at h
    rw [h]; simp)
theorem str_long (h : 400 < p.steps.length) : stretchV n p a = [] := str_lies (by unfold plOk; rw [steps_long h]; rfl)
theorem str_one {i : Nat} (hi : i < p.steps.length) (h : stepB n (p.steps.getD i default) = false) : stretchV n p a = [] := str_lies (by unfold plOk; rw [steps_one hi h]; rfl)
theorem str_done (h1 : p.ok = true) (h2 : netGood n = true) (h3 : spotB n a = true) (h4 : 0 ≤ p.far ∧ p.far ≤ 1000000) (h5 : 0 < p.steps.length) (h6 : p.steps.getD 0 default = stepOf a) (h7 : plOk n p.steps = true) {ps : List PartT} {left : Int} (h : partsGo n (spotsOf n a p.steps) p.far = (ps, left)) :
    stretchV n p a = if 0 < left then [] else ps := by
  unfold plOk at h7
  simp only [Bool.and_eq_true] at h7
  have : stretchOk n p a = true := by
    unfold stretchOk spotOkB
    rw [h1, h2, h3, decide_eq_true h4, h7.1, h7.2, head_getD h5, h6]
    simp
  unfold stretchV
  rw [this, h]
  rfl
end
end Go.Proofs.Ytckcffjnffcjcaa
