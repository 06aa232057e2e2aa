/-
  DERIVED. GIVEN WITH THE SEED: THE CARDS: each row of YtfeidjjabjejiaaGreatDoorRows.lean that lists a variable, with what it lists TIED to the program's text (the seventh form; the later family's looks); each row that meets fmt, with fmt's text TOLD by the authors' own Lean function (tested against real Go, not proved from fmt's source: count such statements apart). THE CARD IS WHAT COUNTS. Prove the row's statement (the work); the ties are given (YtfeidjjabjejiaaGreatDoorTie.lean); close each card by the builder's one call (the guide's Derived/Test/ToyasCard.lean, 'card_holds'). Laid BY PROGRAM, IN A SANDBOX (cutbox-door.mjs). By AI agents, Wed Nov 11 2026. No macro, syntax, notation, axiom, sorry.
-/
import Derived.Test.YtfeidjjabjejiaaGreatDoorRows
import GoSem.ClaimSeven
namespace Go.Proofs.YtfeidjjabjejiaaGreatDoor
namespace Rows

/-- THE TIED CARD OF 'laws.FnDerivParts'. -/
def fnDerivPartsCard : Claim7 := { stood := { row := fnDerivPartsRow, standIns := [], harness := (true, "a8647ca8117da757b295d798a07b444c36d639203415196c33e0dd3fae567160"), looks := false }, kinds := [], alts := [], laidByText := true, laidKinds := [.data, .data, .data], laidTests := true, laidLooks := .later }
def FnDerivPartsCardSaid : Prop := Claim7.holds Tryz.pinned (.plain (OpenSpec.ofChange fnDerivPartsSpec)) fnDerivPartsCard

/-- THE TIED CARD OF 'laws.FnExactDerivBy'. -/
def fnExactDerivByCard : Claim7 := { stood := { row := fnExactDerivByRow, standIns := [], harness := (true, "a8647ca8117da757b295d798a07b444c36d639203415196c33e0dd3fae567160"), looks := false }, kinds := [], alts := [], laidByText := true, laidKinds := [.data, .data, .data], laidTests := true, laidLooks := .later }
def FnExactDerivByCardSaid : Prop := Claim7.holds Tryz.pinned (.plain (OpenSpec.ofChange fnExactDerivBySpec)) fnExactDerivByCard

/-- THE TIED CARD OF 'laws.FnExactDerivText'. -/
def fnExactDerivTextCard : Claim7 := { stood := { row := fnExactDerivTextRow, standIns := [], harness := (true, "a8647ca8117da757b295d798a07b444c36d639203415196c33e0dd3fae567160"), looks := false }, kinds := [], alts := [], laidByText := true, laidKinds := [.data, .data, .data], laidTests := true, laidLooks := .later }
def FnExactDerivTextCardSaid : Prop := Claim7.holds Tryz.pinned (.plain (OpenSpec.ofChange fnExactDerivTextSpec)) fnExactDerivTextCard

/-- THE TIED CARD OF 'laws.FnRex'. -/
def fnRexCard : Claim7 := { stood := { row := fnRexRow, standIns := [], harness := (true, "a8647ca8117da757b295d798a07b444c36d639203415196c33e0dd3fae567160"), looks := false }, kinds := [], alts := [], laidByText := true, laidKinds := [.data, .data, .data, .data, .pinned], laidTests := true, laidLooks := .later }
def FnRexCardSaid : Prop := Claim7.holds Tryz.pinned (.plain (OpenSpec.ofChange fnRexSpec)) fnRexCard

/-- THE TIED CARD OF 'laws.FnExactNormOr'. -/
def fnExactNormOrCard : Claim7 := { stood := { row := fnExactNormOrRow, standIns := [], harness := (true, "a8647ca8117da757b295d798a07b444c36d639203415196c33e0dd3fae567160"), looks := false }, kinds := [], alts := [], laidByText := true, laidKinds := [.data, .data, .data], laidTests := true, laidLooks := .later }
def FnExactNormOrCardSaid : Prop := Claim7.holds Tryz.pinned (.plain (OpenSpec.ofChange fnExactNormOrSpec)) fnExactNormOrCard

/-- THE TIED CARD OF 'laws.FnExactNormAnd'. -/
def fnExactNormAndCard : Claim7 := { stood := { row := fnExactNormAndRow, standIns := [], harness := (true, "a8647ca8117da757b295d798a07b444c36d639203415196c33e0dd3fae567160"), looks := false }, kinds := [], alts := [], laidByText := true, laidKinds := [.data, .data, .data], laidTests := true, laidLooks := .later }
def FnExactNormAndCardSaid : Prop := Claim7.holds Tryz.pinned (.plain (OpenSpec.ofChange fnExactNormAndSpec)) fnExactNormAndCard

/-- THE TIED CARD OF 'laws.FnNormUnit'. -/
def fnNormUnitCard : Claim7 := { stood := { row := fnNormUnitRow, standIns := [], harness := (true, "a8647ca8117da757b295d798a07b444c36d639203415196c33e0dd3fae567160"), looks := false }, kinds := [], alts := [], laidByText := true, laidKinds := [.data, .data, .data], laidTests := true, laidLooks := .later }
def FnNormUnitCardSaid : Prop := Claim7.holds Tryz.pinned (.plain (OpenSpec.ofChange fnNormUnitSpec)) fnNormUnitCard

/-- THE TIED CARD OF 'laws.FnNormAssoc'. -/
def fnNormAssocCard : Claim7 := { stood := { row := fnNormAssocRow, standIns := [], harness := (true, "a8647ca8117da757b295d798a07b444c36d639203415196c33e0dd3fae567160"), looks := false }, kinds := [], alts := [], laidByText := true, laidKinds := [.data, .data, .data], laidTests := true, laidLooks := .later }
def FnNormAssocCardSaid : Prop := Claim7.holds Tryz.pinned (.plain (OpenSpec.ofChange fnNormAssocSpec)) fnNormAssocCard

/-- THE TIED CARD OF 'laws.FnExactNorm'. -/
def fnExactNormCard : Claim7 := { stood := { row := fnExactNormRow, standIns := [], harness := (true, "a8647ca8117da757b295d798a07b444c36d639203415196c33e0dd3fae567160"), looks := false }, kinds := [], alts := [], laidByText := true, laidKinds := [.data, .data, .data], laidTests := true, laidLooks := .later }
def FnExactNormCardSaid : Prop := Claim7.holds Tryz.pinned (.plain (OpenSpec.ofChange fnExactNormSpec)) fnExactNormCard

/-- THE TIED CARD OF 'laws.FnNormTwo'. -/
def fnNormTwoCard : Claim7 := { stood := { row := fnNormTwoRow, standIns := [], harness := (true, "a8647ca8117da757b295d798a07b444c36d639203415196c33e0dd3fae567160"), looks := false }, kinds := [], alts := [], laidByText := true, laidKinds := [.data, .data, .data], laidTests := true, laidLooks := .later }
def FnNormTwoCardSaid : Prop := Claim7.holds Tryz.pinned (.plain (OpenSpec.ofChange fnNormTwoSpec)) fnNormTwoCard

/-- THE TIED CARD OF 'laws.FnNorm'. -/
def fnNormCard : Claim7 := { stood := { row := fnNormRow, standIns := [], harness := (true, "a8647ca8117da757b295d798a07b444c36d639203415196c33e0dd3fae567160"), looks := false }, kinds := [], alts := [], laidByText := true, laidKinds := [.data, .data, .data], laidTests := true, laidLooks := .later }
def FnNormCardSaid : Prop := Claim7.holds Tryz.pinned (.plain (OpenSpec.ofChange fnNormSpec)) fnNormCard

/-- THE SECOND FORM's CARD OF 'laws.FnDerivParts'. -/
def fnDerivPartsUptoCard : Claim7 := { stood := { row := fnDerivPartsUptoRow, standIns := [], harness := (true, "a8647ca8117da757b295d798a07b444c36d639203415196c33e0dd3fae567160"), looks := false }, kinds := [], alts := [], laidByText := true, laidKinds := [.data, .data, .data], laidTests := true, laidLooks := .later }
def FnDerivPartsUptoCardSaid : Prop := Claim7.holds Tryz.pinned (.plain (OpenSpec.upto fnDerivPartsSpec)) fnDerivPartsUptoCard

/-- THE SECOND FORM's CARD OF 'laws.FnExactDerivBy'. -/
def fnExactDerivByUptoCard : Claim7 := { stood := { row := fnExactDerivByUptoRow, standIns := [], harness := (true, "a8647ca8117da757b295d798a07b444c36d639203415196c33e0dd3fae567160"), looks := false }, kinds := [], alts := [], laidByText := true, laidKinds := [.data, .data, .data], laidTests := true, laidLooks := .later }
def FnExactDerivByUptoCardSaid : Prop := Claim7.holds Tryz.pinned (.plain (OpenSpec.upto fnExactDerivBySpec)) fnExactDerivByUptoCard

/-- THE SECOND FORM's CARD OF 'laws.FnExactDerivText'. -/
def fnExactDerivTextUptoCard : Claim7 := { stood := { row := fnExactDerivTextUptoRow, standIns := [], harness := (true, "a8647ca8117da757b295d798a07b444c36d639203415196c33e0dd3fae567160"), looks := false }, kinds := [], alts := [], laidByText := true, laidKinds := [.data, .data, .data], laidTests := true, laidLooks := .later }
def FnExactDerivTextUptoCardSaid : Prop := Claim7.holds Tryz.pinned (.plain (OpenSpec.upto fnExactDerivTextSpec)) fnExactDerivTextUptoCard

/-- THE SECOND FORM's CARD OF 'laws.FnRex'. -/
def fnRexUptoCard : Claim7 := { stood := { row := fnRexUptoRow, standIns := [], harness := (true, "a8647ca8117da757b295d798a07b444c36d639203415196c33e0dd3fae567160"), looks := false }, kinds := [], alts := [], laidByText := true, laidKinds := [.data, .data, .data, .data, .pinned], laidTests := true, laidLooks := .later }
def FnRexUptoCardSaid : Prop := Claim7.holds Tryz.pinned (.plain (OpenSpec.upto fnRexSpec)) fnRexUptoCard

/-- THE SECOND FORM's CARD OF 'laws.FnExactNormOr'. -/
def fnExactNormOrUptoCard : Claim7 := { stood := { row := fnExactNormOrUptoRow, standIns := [], harness := (true, "a8647ca8117da757b295d798a07b444c36d639203415196c33e0dd3fae567160"), looks := false }, kinds := [], alts := [], laidByText := true, laidKinds := [.data, .data, .data], laidTests := true, laidLooks := .later }
def FnExactNormOrUptoCardSaid : Prop := Claim7.holds Tryz.pinned (.plain (OpenSpec.upto fnExactNormOrSpec)) fnExactNormOrUptoCard

/-- THE SECOND FORM's CARD OF 'laws.FnExactNormAnd'. -/
def fnExactNormAndUptoCard : Claim7 := { stood := { row := fnExactNormAndUptoRow, standIns := [], harness := (true, "a8647ca8117da757b295d798a07b444c36d639203415196c33e0dd3fae567160"), looks := false }, kinds := [], alts := [], laidByText := true, laidKinds := [.data, .data, .data], laidTests := true, laidLooks := .later }
def FnExactNormAndUptoCardSaid : Prop := Claim7.holds Tryz.pinned (.plain (OpenSpec.upto fnExactNormAndSpec)) fnExactNormAndUptoCard

/-- THE SECOND FORM's CARD OF 'laws.FnNormUnit'. -/
def fnNormUnitUptoCard : Claim7 := { stood := { row := fnNormUnitUptoRow, standIns := [], harness := (true, "a8647ca8117da757b295d798a07b444c36d639203415196c33e0dd3fae567160"), looks := false }, kinds := [], alts := [], laidByText := true, laidKinds := [.data, .data, .data], laidTests := true, laidLooks := .later }
def FnNormUnitUptoCardSaid : Prop := Claim7.holds Tryz.pinned (.plain (OpenSpec.upto fnNormUnitSpec)) fnNormUnitUptoCard

/-- THE SECOND FORM's CARD OF 'laws.FnNormAssoc'. -/
def fnNormAssocUptoCard : Claim7 := { stood := { row := fnNormAssocUptoRow, standIns := [], harness := (true, "a8647ca8117da757b295d798a07b444c36d639203415196c33e0dd3fae567160"), looks := false }, kinds := [], alts := [], laidByText := true, laidKinds := [.data, .data, .data], laidTests := true, laidLooks := .later }
def FnNormAssocUptoCardSaid : Prop := Claim7.holds Tryz.pinned (.plain (OpenSpec.upto fnNormAssocSpec)) fnNormAssocUptoCard

/-- THE SECOND FORM's CARD OF 'laws.FnExactNorm'. -/
def fnExactNormUptoCard : Claim7 := { stood := { row := fnExactNormUptoRow, standIns := [], harness := (true, "a8647ca8117da757b295d798a07b444c36d639203415196c33e0dd3fae567160"), looks := false }, kinds := [], alts := [], laidByText := true, laidKinds := [.data, .data, .data], laidTests := true, laidLooks := .later }
def FnExactNormUptoCardSaid : Prop := Claim7.holds Tryz.pinned (.plain (OpenSpec.upto fnExactNormSpec)) fnExactNormUptoCard

/-- THE SECOND FORM's CARD OF 'laws.FnNormTwo'. -/
def fnNormTwoUptoCard : Claim7 := { stood := { row := fnNormTwoUptoRow, standIns := [], harness := (true, "a8647ca8117da757b295d798a07b444c36d639203415196c33e0dd3fae567160"), looks := false }, kinds := [], alts := [], laidByText := true, laidKinds := [.data, .data, .data], laidTests := true, laidLooks := .later }
def FnNormTwoUptoCardSaid : Prop := Claim7.holds Tryz.pinned (.plain (OpenSpec.upto fnNormTwoSpec)) fnNormTwoUptoCard

/-- THE SECOND FORM's CARD OF 'laws.FnNorm'. -/
def fnNormUptoCard : Claim7 := { stood := { row := fnNormUptoRow, standIns := [], harness := (true, "a8647ca8117da757b295d798a07b444c36d639203415196c33e0dd3fae567160"), looks := false }, kinds := [], alts := [], laidByText := true, laidKinds := [.data, .data, .data], laidTests := true, laidLooks := .later }
def FnNormUptoCardSaid : Prop := Claim7.holds Tryz.pinned (.plain (OpenSpec.upto fnNormSpec)) fnNormUptoCard
end Rows
end Go.Proofs.YtfeidjjabjejiaaGreatDoor
