/-
  DERIVED. GIVEN WITH THE SEED: THE CARDS: each row of YtckcffjnffcjcaaDoorRows.lean that lists a variable, with what it lists TIED to the program's text (the seventh form; the later family's looks); each row that meets fmt, with fmt's text TOLD by the authors' own Lean function (tested against real Go, not proved from fmt's source: count such statements apart). THE CARD IS WHAT COUNTS. Prove the row's statement (the work); the ties are given (YtckcffjnffcjcaaDoorTie.lean); close each card by the builder's one call (the guide's Derived/Test/ToyasCard.lean, 'card_holds'). Laid BY PROGRAM, IN A SANDBOX (cutbox-door.mjs). By AI agents, Wed Nov 11 2026. No macro, syntax, notation, axiom, sorry.
-/
import Derived.Test.YtckcffjnffcjcaaDoorRows
import GoSem.ClaimSeven
namespace Go.Proofs.YtckcffjnffcjcaaDoor
namespace Rows

/-- THE TIED CARD OF 'laws.FnExactWriteNet'. -/
def fnExactWriteNetCard : Claim7 := { stood := { row := fnExactWriteNetRow, standIns := [], harness := (true, "1b06f98e82391196c4faf0dd548a483076d037f0619e052e8485420c4cd797b9"), looks := false }, kinds := [], alts := [], laidByText := true, laidKinds := [.data, .data, .data], laidTests := true, laidLooks := .later }
def FnExactWriteNetCardSaid : Prop := Claim7.holds Tryd.pinned (.plain (OpenSpec.ofChange fnExactWriteNetSpec)) fnExactWriteNetCard

/-- THE TIED CARD OF 'laws.FnExactReadNet'. -/
def fnExactReadNetCard : Claim7 := { stood := { row := fnExactReadNetRow, standIns := [], harness := (true, "1b06f98e82391196c4faf0dd548a483076d037f0619e052e8485420c4cd797b9"), looks := false }, kinds := [], alts := [], laidByText := true, laidKinds := [.data, .mapped, .pinned], laidTests := true, laidLooks := .later }
def FnExactReadNetCardSaid : Prop := Claim7.holds Tryd.pinned (.plain (OpenSpec.ofChange fnExactReadNetSpec)) fnExactReadNetCard

/-- THE TIED CARD OF 'laws.FnText'. -/
def fnTextCard : Claim7 := { stood := { row := fnTextRow, standIns := [], harness := (true, "1b06f98e82391196c4faf0dd548a483076d037f0619e052e8485420c4cd797b9"), looks := false }, kinds := [], alts := [], laidByText := true, laidKinds := [.data, .data, .data, .data, .mapped, .pinned], laidTests := true, laidLooks := .later }
def FnTextCardSaid : Prop := Claim7.holds Tryd.pinned (.plain (OpenSpec.ofChange fnTextSpec)) fnTextCard

/-- THE SECOND FORM's CARD OF 'laws.FnExactWriteNet'. -/
def fnExactWriteNetUptoCard : Claim7 := { stood := { row := fnExactWriteNetUptoRow, standIns := [], harness := (true, "1b06f98e82391196c4faf0dd548a483076d037f0619e052e8485420c4cd797b9"), looks := false }, kinds := [], alts := [], laidByText := true, laidKinds := [.data, .data, .data], laidTests := true, laidLooks := .later }
def FnExactWriteNetUptoCardSaid : Prop := Claim7.holds Tryd.pinned (.plain (OpenSpec.upto fnExactWriteNetSpec)) fnExactWriteNetUptoCard

/-- THE SECOND FORM's CARD OF 'laws.FnExactReadNet'. -/
def fnExactReadNetUptoCard : Claim7 := { stood := { row := fnExactReadNetUptoRow, standIns := [], harness := (true, "1b06f98e82391196c4faf0dd548a483076d037f0619e052e8485420c4cd797b9"), looks := false }, kinds := [], alts := [], laidByText := true, laidKinds := [.data, .mapped, .pinned], laidTests := true, laidLooks := .later }
def FnExactReadNetUptoCardSaid : Prop := Claim7.holds Tryd.pinned (.plain (OpenSpec.upto fnExactReadNetSpec)) fnExactReadNetUptoCard

/-- THE SECOND FORM's CARD OF 'laws.FnText'. -/
def fnTextUptoCard : Claim7 := { stood := { row := fnTextUptoRow, standIns := [], harness := (true, "1b06f98e82391196c4faf0dd548a483076d037f0619e052e8485420c4cd797b9"), looks := false }, kinds := [], alts := [], laidByText := true, laidKinds := [.data, .data, .data, .data, .mapped, .pinned], laidTests := true, laidLooks := .later }
def FnTextUptoCardSaid : Prop := Claim7.holds Tryd.pinned (.plain (OpenSpec.upto fnTextSpec)) fnTextUptoCard
end Rows
end Go.Proofs.YtckcffjnffcjcaaDoor
