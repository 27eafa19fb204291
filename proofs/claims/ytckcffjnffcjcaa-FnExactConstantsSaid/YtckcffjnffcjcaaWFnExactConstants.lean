/- Proved: a call of FnExactConstants returns true and changes nothing. No conditions. -/
import Derived.Test.YtckcffjnffcjcaaRows
import Derived.WalkKit
namespace Go.Proofs.Ytckcffjnffcjcaa
open Go.RowKit
theorem FnExactConstants_walk (w : World) : Calls Try.prog 3 #[] w fun e w' => e = .returned (.bool true) ∧ Below w.heap.size w w' := by
  go_enter Try.func3, Try.ntmps3
  go_wp2
  go_ret
  exact ⟨rfl, Below.refl _ _⟩
end Go.Proofs.Ytckcffjnffcjcaa
