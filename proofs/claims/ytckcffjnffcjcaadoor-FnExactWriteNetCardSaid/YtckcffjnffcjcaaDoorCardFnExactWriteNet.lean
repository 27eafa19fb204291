/- Proved: the tied card of the law FnExactWriteNet (statement FnExactWriteNetCardSaid): the row, and what it lists tied to the program's text by the given tie. The tie speaks of the pruned copy of the project that the seat's page names. -/
import Derived.Test.YtckcffjnffcjcaaDoorRowFnExactWriteNet
import Derived.Test.YtckcffjnffcjcaaDoorTie
import Derived.Test.YtckcffjnffcjcaaDoorCards
import Derived.SevenTiedAt
namespace Go.Proofs.YtckcffjnffcjcaaDoor
open Go
set_option maxRecDepth 100000
theorem cardWords : Rows.fnExactWriteNetRow.wfByText (OpenSpec.ofChange Rows.fnExactWriteNetSpec) = true := by kernel_rfl
theorem cardMain : Tryd.pinned.checked.prog.mainIs = some (true, "1b06f98e82391196c4faf0dd548a483076d037f0619e052e8485420c4cd797b9".toList) := by kernel_rfl
theorem cardLooks : false = Tryd.prog.looks [] := by kernel_rfl
theorem cardStand : Tryd.prog.wantsStandIn 25 = false := by kernel_rfl
theorem cardGoes : false = Rows.fnExactWriteNetRow.goesBy Tryd.pinned.checked.prog := by kernel_rfl
theorem fnExactWriteNetCard_holds : Rows.FnExactWriteNetCardSaid :=
  Claim7.holds_tied_plain_at .later [] [.data, .data, .data] true (true, "1b06f98e82391196c4faf0dd548a483076d037f0619e052e8485420c4cd797b9") false
    fnExactWriteNet_holds (fun _ h => by cases h) cardWords (fun _ h => by cases h) fnExactWriteNet_row_tie rfl ⟨rfl, rfl⟩ cardMain rfl
    (fun f fn hf hfn => by
      obtain rfl : f = 3 := Option.some.inj (fnExactWriteNet.named.symm.trans hf) |>.symm
      obtain rfl : fn = Tryd.f3 := (Option.some.inj (Tryd.func3.symm.trans hfn)).symm
      exact ⟨cardLooks, fun j t ht => by
        rw [Tryd.params3] at ht
        have h3 : t = 25 := by
          rcases j with _ | j
          · simpa using ht.symm
          · simp at ht
        subst h3
        exact cardStand⟩)
    cardGoes
#print axioms fnExactWriteNetCard_holds
end Go.Proofs.YtckcffjnffcjcaaDoor
