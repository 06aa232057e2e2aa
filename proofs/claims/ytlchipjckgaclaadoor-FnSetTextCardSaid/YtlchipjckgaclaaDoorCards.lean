/-
  DERIVED. GIVEN WITH THE SEED: THE CARDS: each row of YtlchipjckgaclaaDoorRows.lean that lists a variable, with what it lists TIED to the program's text (the seventh form; the later family's looks); each row that meets fmt, with fmt's text TOLD by the authors' own Lean function (tested against real Go, not proved from fmt's source: count such statements apart). THE CARD IS WHAT COUNTS. Prove the row's statement (the work); the ties are given (YtlchipjckgaclaaDoorTie.lean); close each card by the builder's one call (the guide's Derived/Test/ToyasCard.lean, 'card_holds'). Laid BY PROGRAM, IN A SANDBOX (cutbox-door.mjs). By AI agents, Wed Nov 11 2026. No macro, syntax, notation, axiom, sorry.
-/
import Derived.Test.YtlchipjckgaclaaDoorRows
import GoSem.ClaimSeven
namespace Go.Proofs.YtlchipjckgaclaaDoor
namespace Rows

/-- THE TIED CARD OF 'laws.FnExactSetText'. -/
def fnExactSetTextCard : Claim7 := { stood := { row := fnExactSetTextRow, standIns := [], harness := (true, "23bd7aee7d7226d55f5014b79fc4b5c05c3c8ade7a429da9eac88aa93a45b60a"), looks := false }, kinds := [], alts := [], laidByText := true, laidKinds := [.data, .data, .data], laidTests := true, laidLooks := .later }
def FnExactSetTextCardSaid : Prop := Claim7.holds Tryd.pinned (.plain (OpenSpec.ofChange fnExactSetTextSpec)) fnExactSetTextCard

/-- THE TIED CARD OF 'laws.FnExactRexText'. -/
def fnExactRexTextCard : Claim7 := { stood := { row := fnExactRexTextRow, standIns := [], harness := (true, "23bd7aee7d7226d55f5014b79fc4b5c05c3c8ade7a429da9eac88aa93a45b60a"), looks := false }, kinds := [], alts := [], laidByText := true, laidKinds := [.data, .data, .data], laidTests := true, laidLooks := .later }
def FnExactRexTextCardSaid : Prop := Claim7.holds Tryd.pinned (.plain (OpenSpec.ofChange fnExactRexTextSpec)) fnExactRexTextCard

/-- THE TIED CARD OF 'laws.FnRexSame'. -/
def fnRexSameCard : Claim7 := { stood := { row := fnRexSameRow, standIns := [], harness := (true, "23bd7aee7d7226d55f5014b79fc4b5c05c3c8ade7a429da9eac88aa93a45b60a"), looks := false }, kinds := [], alts := [], laidByText := true, laidKinds := [.data, .data, .data], laidTests := true, laidLooks := .later }
def FnRexSameCardSaid : Prop := Claim7.holds Tryd.pinned (.plain (OpenSpec.ofChange fnRexSameSpec)) fnRexSameCard

/-- THE TIED CARD OF 'laws.FnExactSetRead'. -/
def fnExactSetReadCard : Claim7 := { stood := { row := fnExactSetReadRow, standIns := [], harness := (true, "23bd7aee7d7226d55f5014b79fc4b5c05c3c8ade7a429da9eac88aa93a45b60a"), looks := false }, kinds := [], alts := [], laidByText := true, laidKinds := [.data, .data, .data, .data, .pinned], laidTests := true, laidLooks := .later }
def FnExactSetReadCardSaid : Prop := Claim7.holds Tryd.pinned (.plain (OpenSpec.ofChange fnExactSetReadSpec)) fnExactSetReadCard

/-- THE TIED CARD OF 'laws.FnSetText'. -/
def fnSetTextCard : Claim7 := { stood := { row := fnSetTextRow, standIns := [], harness := (true, "23bd7aee7d7226d55f5014b79fc4b5c05c3c8ade7a429da9eac88aa93a45b60a"), looks := false }, kinds := [], alts := [], laidByText := true, laidKinds := [.data, .data, .data, .data, .pinned], laidTests := true, laidLooks := .later }
def FnSetTextCardSaid : Prop := Claim7.holds Tryd.pinned (.plain (OpenSpec.ofChange fnSetTextSpec)) fnSetTextCard

/-- THE TIED CARD OF 'laws.FnExactRexRead'. -/
def fnExactRexReadCard : Claim7 := { stood := { row := fnExactRexReadRow, standIns := [], harness := (true, "23bd7aee7d7226d55f5014b79fc4b5c05c3c8ade7a429da9eac88aa93a45b60a"), looks := false }, kinds := [], alts := [], laidByText := true, laidKinds := [.data, .data, .data, .data, .pinned], laidTests := true, laidLooks := .later }
def FnExactRexReadCardSaid : Prop := Claim7.holds Tryd.pinned (.plain (OpenSpec.ofChange fnExactRexReadSpec)) fnExactRexReadCard

/-- THE SECOND FORM's CARD OF 'laws.FnExactSetText'. -/
def fnExactSetTextUptoCard : Claim7 := { stood := { row := fnExactSetTextUptoRow, standIns := [], harness := (true, "23bd7aee7d7226d55f5014b79fc4b5c05c3c8ade7a429da9eac88aa93a45b60a"), looks := false }, kinds := [], alts := [], laidByText := true, laidKinds := [.data, .data, .data], laidTests := true, laidLooks := .later }
def FnExactSetTextUptoCardSaid : Prop := Claim7.holds Tryd.pinned (.plain (OpenSpec.upto fnExactSetTextSpec)) fnExactSetTextUptoCard

/-- THE SECOND FORM's CARD OF 'laws.FnExactRexText'. -/
def fnExactRexTextUptoCard : Claim7 := { stood := { row := fnExactRexTextUptoRow, standIns := [], harness := (true, "23bd7aee7d7226d55f5014b79fc4b5c05c3c8ade7a429da9eac88aa93a45b60a"), looks := false }, kinds := [], alts := [], laidByText := true, laidKinds := [.data, .data, .data], laidTests := true, laidLooks := .later }
def FnExactRexTextUptoCardSaid : Prop := Claim7.holds Tryd.pinned (.plain (OpenSpec.upto fnExactRexTextSpec)) fnExactRexTextUptoCard

/-- THE SECOND FORM's CARD OF 'laws.FnRexSame'. -/
def fnRexSameUptoCard : Claim7 := { stood := { row := fnRexSameUptoRow, standIns := [], harness := (true, "23bd7aee7d7226d55f5014b79fc4b5c05c3c8ade7a429da9eac88aa93a45b60a"), looks := false }, kinds := [], alts := [], laidByText := true, laidKinds := [.data, .data, .data], laidTests := true, laidLooks := .later }
def FnRexSameUptoCardSaid : Prop := Claim7.holds Tryd.pinned (.plain (OpenSpec.upto fnRexSameSpec)) fnRexSameUptoCard

/-- THE SECOND FORM's CARD OF 'laws.FnExactSetRead'. -/
def fnExactSetReadUptoCard : Claim7 := { stood := { row := fnExactSetReadUptoRow, standIns := [], harness := (true, "23bd7aee7d7226d55f5014b79fc4b5c05c3c8ade7a429da9eac88aa93a45b60a"), looks := false }, kinds := [], alts := [], laidByText := true, laidKinds := [.data, .data, .data, .data, .pinned], laidTests := true, laidLooks := .later }
def FnExactSetReadUptoCardSaid : Prop := Claim7.holds Tryd.pinned (.plain (OpenSpec.upto fnExactSetReadSpec)) fnExactSetReadUptoCard

/-- THE SECOND FORM's CARD OF 'laws.FnSetText'. -/
def fnSetTextUptoCard : Claim7 := { stood := { row := fnSetTextUptoRow, standIns := [], harness := (true, "23bd7aee7d7226d55f5014b79fc4b5c05c3c8ade7a429da9eac88aa93a45b60a"), looks := false }, kinds := [], alts := [], laidByText := true, laidKinds := [.data, .data, .data, .data, .pinned], laidTests := true, laidLooks := .later }
def FnSetTextUptoCardSaid : Prop := Claim7.holds Tryd.pinned (.plain (OpenSpec.upto fnSetTextSpec)) fnSetTextUptoCard

/-- THE SECOND FORM's CARD OF 'laws.FnExactRexRead'. -/
def fnExactRexReadUptoCard : Claim7 := { stood := { row := fnExactRexReadUptoRow, standIns := [], harness := (true, "23bd7aee7d7226d55f5014b79fc4b5c05c3c8ade7a429da9eac88aa93a45b60a"), looks := false }, kinds := [], alts := [], laidByText := true, laidKinds := [.data, .data, .data, .data, .pinned], laidTests := true, laidLooks := .later }
def FnExactRexReadUptoCardSaid : Prop := Claim7.holds Tryd.pinned (.plain (OpenSpec.upto fnExactRexReadSpec)) fnExactRexReadUptoCard
end Rows
end Go.Proofs.YtlchipjckgaclaaDoor
