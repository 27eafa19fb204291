/- What each law on a net starts from: the copy of a net, the bounds of a net within the size. No conditions. -/
import Derived.Test.YtckcffjnffcjcaaEqs
import Derived.Test.YtckcffjnffcjcaaSzs
import Derived.Test.YtckcffjnffcjcaaTos
import Derived.Test.YtckcffjnffcjcaaOpens
import Derived.Test.YtckcffjnffcjcaaNet1
set_option linter.unusedVariables false
set_option linter.unusedSimpArgs false
namespace Go.Proofs.Ytckcffjnffcjcaa
open Go.RowKit Go.Proofs.YtckcffjnffcjcaaW.PrintWords
/-- The value of a net whose rows lie at u. -/
def netV (u : (Option Addr × Nat) × (Option Addr × Nat)) (n : NetT) : Value := .agg #[.slice u.1.1 n.pieces.length u.1.2, .slice u.2.1 n.joints.length u.2.2]
theorem toNet_of (n : NetT) (u : (Option Addr × Nat) × (Option Addr × Nat)) (w : World) (hr : RdNet 65 w u n) (hp : n.pieces.length ≤ 1048576) (hj : n.joints.length ≤ 1048576) (he : ∀ x ∈ n.joints, x.ends.length ≤ 1048576) :
    Calls Try.prog 43 #[.agg #[.slice u.1.1 n.pieces.length u.1.2, .slice u.2.1 n.joints.length u.2.2]] w
      fun e w' => ∃ u', e = .returned (.agg #[.slice u'.1.1 n.pieces.length u'.1.2, .slice u'.2.1 n.joints.length u'.2.2]) ∧ RdNet 67 w' u' n ∧ Below w.heap.size w w' := by
  refine (toNet_any n u w hr hp hj he).mono ?_
  rintro e w' ⟨v1, v2, rfl, h1, h2, hb⟩
  obtain ⟨A1, c1, rfl, g1, r1⟩ := Kd.R_reads h1
  obtain ⟨A2, c2, rfl, g2, r2⟩ := Kd.R_reads h2
  exact ⟨((A1, c1), (A2, c2)), rfl, ⟨⟨r1, g1⟩, ⟨r2, g2⟩⟩, hb⟩
theorem sum_mem_le {α : Type} (f : α → Nat) : ∀ (l : List α) (x : α), x ∈ l → f x ≤ (l.map f).sum
  | a :: l, x, h => by
    simp only [List.map_cons, List.sum_cons]
    rcases List.mem_cons.1 h with rfl | h
    · omega
    · have := sum_mem_le f l x h; omega
theorem sum_len_le (l : List JointT) : (l.flatMap (·.ends)).length ≤ (l.map wJoint).sum := by
  induction l with
  | nil => simp
  | cons a l ih => simp only [List.flatMap_cons, List.length_append, List.map_cons, List.sum_cons]; unfold wJoint at *; omega
/-- What follows from the size. -/
structure NetFits (n : NetT) : Prop where
  p : n.pieces.length ≤ 1048576
  j : n.joints.length ≤ 1048576
  e : ∀ x ∈ n.joints, x.ends.length ≤ 1048576
  all : (allEnds n).length ≤ 1048576
  pn : ∀ x ∈ n.pieces, x.name.size ≤ 9223372036854775807
  jn : ∀ x ∈ n.joints, x.name.size ≤ 9223372036854775807
theorem NetFits.of {n : NetT} (hg : GNet n) (h : wNet n ≤ 1048576) : NetFits n := by
  unfold wNet wPieces wJoints at h
  refine ⟨by omega, by omega, fun x hx => ?_, ?_, fun x hx => (hg.1.2 x hx).1, fun x hx => (hg.2.2 x hx).2.1⟩
  · have := sum_mem_le wJoint n.joints x hx
    unfold wJoint at this h
    omega
  · have := sum_len_le n.joints
    unfold allEnds
    omega
theorem szNet_of (n : NetT) (u : (Option Addr × Nat) × (Option Addr × Nat)) (w : World) (hr : RdNet 65 w u n) (hg : GNet n) :
    Calls Try.prog 41 #[.agg #[.slice u.1.1 n.pieces.length u.1.2, .slice u.2.1 n.joints.length u.2.2], .int .i64 1048576] w
      fun e w' => e = .returned (.int .i64 (cutZ (1048576 - wNet n))) ∧ Below w.heap.size w w' :=
  szNet_any n u 1048576 w (by omega) (by omega) hr (fun x hx => (hg.1.2 x hx).1) (fun x hx => ⟨(hg.2.2 x hx).2.1, (hg.2.2 x hx).2.2.1⟩)
end Go.Proofs.Ytckcffjnffcjcaa
