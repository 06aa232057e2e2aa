/-
  NARROWER THAN 'FOR EVERY INPUT', by the rows' own cells (each row's printed sentence says how): FnExactRexSame: loops · FnExactRexOk: loops · FnExactRexMany: loops · FnExactRexNull: loops · FnExactRexSets: loops · FnExactNormNot: loops · FnExactNormStar: loops · FnExactMatchIs: loops · FnExactMatchLong: loops · FnExactDerivParts: loops.
  DERIVED. THE GIVEN ROWS OF THIS SEAT. 11 by the template 'for every input the law returns true; each argument reads behind the call as it read before'; 0 by the template 'total and deterministic' (their statements: YtiaccimbkghofaaTotals.lean).
  GIVEN WITH THE SEED: the statements are not yours to turn. If you find one false, say at which input.
  Laid BY PROGRAM, IN A SANDBOX (cutbox-rows.mjs): the forced cells as the released guide's own fill.sh prints them over the translation 408aea2e2f0749ea… (all of the seat's roots in one cut). By AI agents, Wed Nov 11 2026. No macro, syntax, notation, axiom, sorry.
-/
import Derived.Test.YtiaccimbkghofaaChecked
import GoSem.Claim
import GoSem.ClaimJoined
import GoSem.ClaimMapViews
import Derived.JoinedTies
import Derived.KernelRfl
namespace Go.Proofs.Ytiaccimbkghofaa
/- THE CELL 'sum', in the pinned program and in every row, IS THE sha256 OF THE DUMP (.gsa) THAT YtiaccimbkghofaaProg.lean LOADS. Nothing in Lean hashes anything: it is a label: what it is worth is what the hold of that sum in a sandbox is worth. -/
noncomputable def Try.pinned : Pinned := { name := "ytiaccimbkghofaa", sum := "408aea2e2f0749ea536e9a444bde8de9ec93f67d94074f15c2ff87720964c20a", checked := Try.checked }
namespace Rows
def none {H : Type} : Left H := { results := [], args := [] }

/-- 'laws.FnExactRexSame': WHATEVER THE INPUT: true; the input reads as it did. -/
def fnExactRexSameSpec : ChangeSpec := { name := "fnExactRexSame", fn := fun _ => fun
  | [d1, d2] => { results := [.lit (.bool true)], args := [d1, d2] }
  | _ => none }
def fnExactRexSameRow : OpenClaim := { program := "ytiaccimbkghofaa", sum := "408aea2e2f0749ea536e9a444bde8de9ec93f67d94074f15c2ff87720964c20a", func := "loop.example/carding/laws.FnExactRexSame", spec := "fnExactRexSame", recurses := true, loops := true, apart := false }
def FnExactRexSameSaid : Prop := fnExactRexSameRow.holds Try.pinned (OpenSpec.ofChange fnExactRexSameSpec)

/-- ITS FALSE NEIGHBOUR: 'it returns false'. Refute it at one input. -/
def fnExactRexSameWrong : ChangeSpec := { name := "fnExactRexSame", fn := fun _ => fun
  | [d1, d2] => { results := [.lit (.bool false)], args := [d1, d2] }
  | _ => none }
def FnExactRexSameWrongFalsely : Prop := fnExactRexSameRow.holds Try.pinned (OpenSpec.ofChange fnExactRexSameWrong)

/-- 'laws.FnExactRexOk': WHATEVER THE INPUT: true; the input reads as it did. -/
def fnExactRexOkSpec : ChangeSpec := { name := "fnExactRexOk", fn := fun _ => fun
  | [d] => { results := [.lit (.bool true)], args := [d] }
  | _ => none }
def fnExactRexOkRow : OpenClaim := { program := "ytiaccimbkghofaa", sum := "408aea2e2f0749ea536e9a444bde8de9ec93f67d94074f15c2ff87720964c20a", func := "loop.example/carding/laws.FnExactRexOk", spec := "fnExactRexOk", recurses := true, loops := true, apart := false }
def FnExactRexOkSaid : Prop := fnExactRexOkRow.holds Try.pinned (OpenSpec.ofChange fnExactRexOkSpec)

/-- ITS FALSE NEIGHBOUR: 'it returns false'. Refute it at one input. -/
def fnExactRexOkWrong : ChangeSpec := { name := "fnExactRexOk", fn := fun _ => fun
  | [d] => { results := [.lit (.bool false)], args := [d] }
  | _ => none }
def FnExactRexOkWrongFalsely : Prop := fnExactRexOkRow.holds Try.pinned (OpenSpec.ofChange fnExactRexOkWrong)

/-- 'laws.FnExactRexMany': WHATEVER THE INPUT: true; the input reads as it did. -/
def fnExactRexManySpec : ChangeSpec := { name := "fnExactRexMany", fn := fun _ => fun
  | [d] => { results := [.lit (.bool true)], args := [d] }
  | _ => none }
def fnExactRexManyRow : OpenClaim := { program := "ytiaccimbkghofaa", sum := "408aea2e2f0749ea536e9a444bde8de9ec93f67d94074f15c2ff87720964c20a", func := "loop.example/carding/laws.FnExactRexMany", spec := "fnExactRexMany", recurses := true, loops := true, apart := false }
def FnExactRexManySaid : Prop := fnExactRexManyRow.holds Try.pinned (OpenSpec.ofChange fnExactRexManySpec)

/-- ITS FALSE NEIGHBOUR: 'it returns false'. Refute it at one input. -/
def fnExactRexManyWrong : ChangeSpec := { name := "fnExactRexMany", fn := fun _ => fun
  | [d] => { results := [.lit (.bool false)], args := [d] }
  | _ => none }
def FnExactRexManyWrongFalsely : Prop := fnExactRexManyRow.holds Try.pinned (OpenSpec.ofChange fnExactRexManyWrong)

/-- 'laws.FnExactRexNull': WHATEVER THE INPUT: true; the input reads as it did. -/
def fnExactRexNullSpec : ChangeSpec := { name := "fnExactRexNull", fn := fun _ => fun
  | [d] => { results := [.lit (.bool true)], args := [d] }
  | _ => none }
def fnExactRexNullRow : OpenClaim := { program := "ytiaccimbkghofaa", sum := "408aea2e2f0749ea536e9a444bde8de9ec93f67d94074f15c2ff87720964c20a", func := "loop.example/carding/laws.FnExactRexNull", spec := "fnExactRexNull", recurses := true, loops := true, apart := false }
def FnExactRexNullSaid : Prop := fnExactRexNullRow.holds Try.pinned (OpenSpec.ofChange fnExactRexNullSpec)

/-- ITS FALSE NEIGHBOUR: 'it returns false'. Refute it at one input. -/
def fnExactRexNullWrong : ChangeSpec := { name := "fnExactRexNull", fn := fun _ => fun
  | [d] => { results := [.lit (.bool false)], args := [d] }
  | _ => none }
def FnExactRexNullWrongFalsely : Prop := fnExactRexNullRow.holds Try.pinned (OpenSpec.ofChange fnExactRexNullWrong)

/-- 'laws.FnExactRexSets': WHATEVER THE INPUT: true; the input reads as it did. -/
def fnExactRexSetsSpec : ChangeSpec := { name := "fnExactRexSets", fn := fun _ => fun
  | [d] => { results := [.lit (.bool true)], args := [d] }
  | _ => none }
def fnExactRexSetsRow : OpenClaim := { program := "ytiaccimbkghofaa", sum := "408aea2e2f0749ea536e9a444bde8de9ec93f67d94074f15c2ff87720964c20a", func := "loop.example/carding/laws.FnExactRexSets", spec := "fnExactRexSets", recurses := true, loops := true, apart := false }
def FnExactRexSetsSaid : Prop := fnExactRexSetsRow.holds Try.pinned (OpenSpec.ofChange fnExactRexSetsSpec)

/-- ITS FALSE NEIGHBOUR: 'it returns false'. Refute it at one input. -/
def fnExactRexSetsWrong : ChangeSpec := { name := "fnExactRexSets", fn := fun _ => fun
  | [d] => { results := [.lit (.bool false)], args := [d] }
  | _ => none }
def FnExactRexSetsWrongFalsely : Prop := fnExactRexSetsRow.holds Try.pinned (OpenSpec.ofChange fnExactRexSetsWrong)

/-- 'laws.FnExactNormNot': WHATEVER THE INPUT: true; the input reads as it did. -/
def fnExactNormNotSpec : ChangeSpec := { name := "fnExactNormNot", fn := fun _ => fun
  | [d] => { results := [.lit (.bool true)], args := [d] }
  | _ => none }
def fnExactNormNotRow : OpenClaim := { program := "ytiaccimbkghofaa", sum := "408aea2e2f0749ea536e9a444bde8de9ec93f67d94074f15c2ff87720964c20a", func := "loop.example/carding/laws.FnExactNormNot", spec := "fnExactNormNot", recurses := true, loops := true, apart := false }
def FnExactNormNotSaid : Prop := fnExactNormNotRow.holds Try.pinned (OpenSpec.ofChange fnExactNormNotSpec)

/-- ITS FALSE NEIGHBOUR: 'it returns false'. Refute it at one input. -/
def fnExactNormNotWrong : ChangeSpec := { name := "fnExactNormNot", fn := fun _ => fun
  | [d] => { results := [.lit (.bool false)], args := [d] }
  | _ => none }
def FnExactNormNotWrongFalsely : Prop := fnExactNormNotRow.holds Try.pinned (OpenSpec.ofChange fnExactNormNotWrong)

/-- 'laws.FnExactNormStar': WHATEVER THE INPUT: true; the input reads as it did. -/
def fnExactNormStarSpec : ChangeSpec := { name := "fnExactNormStar", fn := fun _ => fun
  | [d] => { results := [.lit (.bool true)], args := [d] }
  | _ => none }
def fnExactNormStarRow : OpenClaim := { program := "ytiaccimbkghofaa", sum := "408aea2e2f0749ea536e9a444bde8de9ec93f67d94074f15c2ff87720964c20a", func := "loop.example/carding/laws.FnExactNormStar", spec := "fnExactNormStar", recurses := true, loops := true, apart := false }
def FnExactNormStarSaid : Prop := fnExactNormStarRow.holds Try.pinned (OpenSpec.ofChange fnExactNormStarSpec)

/-- ITS FALSE NEIGHBOUR: 'it returns false'. Refute it at one input. -/
def fnExactNormStarWrong : ChangeSpec := { name := "fnExactNormStar", fn := fun _ => fun
  | [d] => { results := [.lit (.bool false)], args := [d] }
  | _ => none }
def FnExactNormStarWrongFalsely : Prop := fnExactNormStarRow.holds Try.pinned (OpenSpec.ofChange fnExactNormStarWrong)

/-- 'laws.FnExactMatchIs': WHATEVER THE INPUT: true; the input reads as it did. -/
def fnExactMatchIsSpec : ChangeSpec := { name := "fnExactMatchIs", fn := fun _ => fun
  | [d1, d2] => { results := [.lit (.bool true)], args := [d1, d2] }
  | _ => none }
def fnExactMatchIsRow : OpenClaim := { program := "ytiaccimbkghofaa", sum := "408aea2e2f0749ea536e9a444bde8de9ec93f67d94074f15c2ff87720964c20a", func := "loop.example/carding/laws.FnExactMatchIs", spec := "fnExactMatchIs", recurses := true, loops := true, apart := false }
def FnExactMatchIsSaid : Prop := fnExactMatchIsRow.holds Try.pinned (OpenSpec.ofChange fnExactMatchIsSpec)

/-- ITS FALSE NEIGHBOUR: 'it returns false'. Refute it at one input. -/
def fnExactMatchIsWrong : ChangeSpec := { name := "fnExactMatchIs", fn := fun _ => fun
  | [d1, d2] => { results := [.lit (.bool false)], args := [d1, d2] }
  | _ => none }
def FnExactMatchIsWrongFalsely : Prop := fnExactMatchIsRow.holds Try.pinned (OpenSpec.ofChange fnExactMatchIsWrong)

/-- 'laws.FnExactMatchLong': WHATEVER THE INPUT: true; the input reads as it did. -/
def fnExactMatchLongSpec : ChangeSpec := { name := "fnExactMatchLong", fn := fun _ => fun
  | [d1, d2, d3] => { results := [.lit (.bool true)], args := [d1, d2, d3] }
  | _ => none }
def fnExactMatchLongRow : OpenClaim := { program := "ytiaccimbkghofaa", sum := "408aea2e2f0749ea536e9a444bde8de9ec93f67d94074f15c2ff87720964c20a", func := "loop.example/carding/laws.FnExactMatchLong", spec := "fnExactMatchLong", recurses := true, loops := true, apart := false }
def FnExactMatchLongSaid : Prop := fnExactMatchLongRow.holds Try.pinned (OpenSpec.ofChange fnExactMatchLongSpec)

/-- ITS FALSE NEIGHBOUR: 'it returns false'. Refute it at one input. -/
def fnExactMatchLongWrong : ChangeSpec := { name := "fnExactMatchLong", fn := fun _ => fun
  | [d1, d2, d3] => { results := [.lit (.bool false)], args := [d1, d2, d3] }
  | _ => none }
def FnExactMatchLongWrongFalsely : Prop := fnExactMatchLongRow.holds Try.pinned (OpenSpec.ofChange fnExactMatchLongWrong)

/-- 'laws.FnExactSetParts': WHATEVER THE INPUT: true; the input reads as it did. -/
def fnExactSetPartsSpec : ChangeSpec := { name := "fnExactSetParts", fn := fun _ => fun
  | [d] => { results := [.lit (.bool true)], args := [d] }
  | _ => none }
def fnExactSetPartsRow : OpenClaim := { program := "ytiaccimbkghofaa", sum := "408aea2e2f0749ea536e9a444bde8de9ec93f67d94074f15c2ff87720964c20a", func := "loop.example/carding/laws.FnExactSetParts", spec := "fnExactSetParts", apart := false }
def FnExactSetPartsSaid : Prop := fnExactSetPartsRow.holds Try.pinned (OpenSpec.ofChange fnExactSetPartsSpec)

/-- ITS FALSE NEIGHBOUR: 'it returns false'. Refute it at one input. -/
def fnExactSetPartsWrong : ChangeSpec := { name := "fnExactSetParts", fn := fun _ => fun
  | [d] => { results := [.lit (.bool false)], args := [d] }
  | _ => none }
def FnExactSetPartsWrongFalsely : Prop := fnExactSetPartsRow.holds Try.pinned (OpenSpec.ofChange fnExactSetPartsWrong)

/-- 'laws.FnExactDerivParts': WHATEVER THE INPUT: true; the input reads as it did. -/
def fnExactDerivPartsSpec : ChangeSpec := { name := "fnExactDerivParts", fn := fun _ => fun
  | [d] => { results := [.lit (.bool true)], args := [d] }
  | _ => none }
def fnExactDerivPartsRow : OpenClaim := { program := "ytiaccimbkghofaa", sum := "408aea2e2f0749ea536e9a444bde8de9ec93f67d94074f15c2ff87720964c20a", func := "loop.example/carding/laws.FnExactDerivParts", spec := "fnExactDerivParts", recurses := true, loops := true, apart := false }
def FnExactDerivPartsSaid : Prop := fnExactDerivPartsRow.holds Try.pinned (OpenSpec.ofChange fnExactDerivPartsSpec)

/-- ITS FALSE NEIGHBOUR: 'it returns false'. Refute it at one input. -/
def fnExactDerivPartsWrong : ChangeSpec := { name := "fnExactDerivParts", fn := fun _ => fun
  | [d] => { results := [.lit (.bool false)], args := [d] }
  | _ => none }
def FnExactDerivPartsWrongFalsely : Prop := fnExactDerivPartsRow.holds Try.pinned (OpenSpec.ofChange fnExactDerivPartsWrong)

/- THE SECOND FORM. 'bulk': how many values and letters a reading holds, each counted each time it is reached (what is shared counts as often as it is met; a slice's spare places count too). A statement '..UptoSaid' is the law's where the arguments, and the package variables that the reading takes, are together of bulk at most 1048576: NARROWER than '..Said'. Prove '..Said' where nothing that the law and all that it calls make is longer than what came in: it says more and counts as full. Else prove '..UptoSaid'. A law counts once. -/
mutual
def uptoBulk {H : Type} : DataW H → Nat
  | .lit (.string bytes) => bytes.length + 1
  | .lit _ => 1
  | .nil => 1
  | .ptr d => uptoBulk d + 1
  | .slice elems spare => uptoBulkAll elems + uptoBulkAll spare + 1
  | .agg parts => uptoBulkAll parts + 1
  | .iface _ d => uptoBulk d + 1
  | .map entries => uptoBulkEntries entries + 1
  | .held _ => 1
def uptoBulkAll {H : Type} : List (DataW H) → Nat
  | [] => 0
  | d :: r => uptoBulk d + uptoBulkAll r
def uptoBulkEntries {H : Type} : List (Lit × DataW H) → Nat
  | [] => 0
  | x :: r => uptoBulkEntry x + uptoBulkEntries r
def uptoBulkEntry {H : Type} : Lit × DataW H → Nat
  | (.string bytes, d) => bytes.length + uptoBulk d + 1
  | (_, d) => uptoBulk d + 1
 end
def uptoSmall : (H : Type) → List (DataW H) → Bool := fun _ ds => decide (uptoBulkAll ds ≤ 1048576)
def OpenSpec.upto (s : _root_.Go.ChangeSpec) : _root_.Go.OpenSpec := { _root_.Go.OpenSpec.ofChange s with cond := some uptoSmall }

/-- 'laws.FnExactRexSame', WHERE WHAT IT READS IS OF BULK AT MOST 1048576: true; the input reads as it did. -/
def fnExactRexSameUptoRow : OpenClaim := { program := "ytiaccimbkghofaa", sum := "408aea2e2f0749ea536e9a444bde8de9ec93f67d94074f15c2ff87720964c20a", func := "loop.example/carding/laws.FnExactRexSame", spec := "fnExactRexSame", recurses := true, loops := true, apart := false, narrowed := true }
def FnExactRexSameUptoSaid : Prop := fnExactRexSameUptoRow.holds Try.pinned (OpenSpec.upto fnExactRexSameSpec)

/-- 'laws.FnExactRexOk', WHERE WHAT IT READS IS OF BULK AT MOST 1048576: true; the input reads as it did. -/
def fnExactRexOkUptoRow : OpenClaim := { program := "ytiaccimbkghofaa", sum := "408aea2e2f0749ea536e9a444bde8de9ec93f67d94074f15c2ff87720964c20a", func := "loop.example/carding/laws.FnExactRexOk", spec := "fnExactRexOk", recurses := true, loops := true, apart := false, narrowed := true }
def FnExactRexOkUptoSaid : Prop := fnExactRexOkUptoRow.holds Try.pinned (OpenSpec.upto fnExactRexOkSpec)

/-- 'laws.FnExactRexMany', WHERE WHAT IT READS IS OF BULK AT MOST 1048576: true; the input reads as it did. -/
def fnExactRexManyUptoRow : OpenClaim := { program := "ytiaccimbkghofaa", sum := "408aea2e2f0749ea536e9a444bde8de9ec93f67d94074f15c2ff87720964c20a", func := "loop.example/carding/laws.FnExactRexMany", spec := "fnExactRexMany", recurses := true, loops := true, apart := false, narrowed := true }
def FnExactRexManyUptoSaid : Prop := fnExactRexManyUptoRow.holds Try.pinned (OpenSpec.upto fnExactRexManySpec)

/-- 'laws.FnExactRexNull', WHERE WHAT IT READS IS OF BULK AT MOST 1048576: true; the input reads as it did. -/
def fnExactRexNullUptoRow : OpenClaim := { program := "ytiaccimbkghofaa", sum := "408aea2e2f0749ea536e9a444bde8de9ec93f67d94074f15c2ff87720964c20a", func := "loop.example/carding/laws.FnExactRexNull", spec := "fnExactRexNull", recurses := true, loops := true, apart := false, narrowed := true }
def FnExactRexNullUptoSaid : Prop := fnExactRexNullUptoRow.holds Try.pinned (OpenSpec.upto fnExactRexNullSpec)

/-- 'laws.FnExactRexSets', WHERE WHAT IT READS IS OF BULK AT MOST 1048576: true; the input reads as it did. -/
def fnExactRexSetsUptoRow : OpenClaim := { program := "ytiaccimbkghofaa", sum := "408aea2e2f0749ea536e9a444bde8de9ec93f67d94074f15c2ff87720964c20a", func := "loop.example/carding/laws.FnExactRexSets", spec := "fnExactRexSets", recurses := true, loops := true, apart := false, narrowed := true }
def FnExactRexSetsUptoSaid : Prop := fnExactRexSetsUptoRow.holds Try.pinned (OpenSpec.upto fnExactRexSetsSpec)

/-- 'laws.FnExactNormNot', WHERE WHAT IT READS IS OF BULK AT MOST 1048576: true; the input reads as it did. -/
def fnExactNormNotUptoRow : OpenClaim := { program := "ytiaccimbkghofaa", sum := "408aea2e2f0749ea536e9a444bde8de9ec93f67d94074f15c2ff87720964c20a", func := "loop.example/carding/laws.FnExactNormNot", spec := "fnExactNormNot", recurses := true, loops := true, apart := false, narrowed := true }
def FnExactNormNotUptoSaid : Prop := fnExactNormNotUptoRow.holds Try.pinned (OpenSpec.upto fnExactNormNotSpec)

/-- 'laws.FnExactNormStar', WHERE WHAT IT READS IS OF BULK AT MOST 1048576: true; the input reads as it did. -/
def fnExactNormStarUptoRow : OpenClaim := { program := "ytiaccimbkghofaa", sum := "408aea2e2f0749ea536e9a444bde8de9ec93f67d94074f15c2ff87720964c20a", func := "loop.example/carding/laws.FnExactNormStar", spec := "fnExactNormStar", recurses := true, loops := true, apart := false, narrowed := true }
def FnExactNormStarUptoSaid : Prop := fnExactNormStarUptoRow.holds Try.pinned (OpenSpec.upto fnExactNormStarSpec)

/-- 'laws.FnExactMatchIs', WHERE WHAT IT READS IS OF BULK AT MOST 1048576: true; the input reads as it did. -/
def fnExactMatchIsUptoRow : OpenClaim := { program := "ytiaccimbkghofaa", sum := "408aea2e2f0749ea536e9a444bde8de9ec93f67d94074f15c2ff87720964c20a", func := "loop.example/carding/laws.FnExactMatchIs", spec := "fnExactMatchIs", recurses := true, loops := true, apart := false, narrowed := true }
def FnExactMatchIsUptoSaid : Prop := fnExactMatchIsUptoRow.holds Try.pinned (OpenSpec.upto fnExactMatchIsSpec)

/-- 'laws.FnExactMatchLong', WHERE WHAT IT READS IS OF BULK AT MOST 1048576: true; the input reads as it did. -/
def fnExactMatchLongUptoRow : OpenClaim := { program := "ytiaccimbkghofaa", sum := "408aea2e2f0749ea536e9a444bde8de9ec93f67d94074f15c2ff87720964c20a", func := "loop.example/carding/laws.FnExactMatchLong", spec := "fnExactMatchLong", recurses := true, loops := true, apart := false, narrowed := true }
def FnExactMatchLongUptoSaid : Prop := fnExactMatchLongUptoRow.holds Try.pinned (OpenSpec.upto fnExactMatchLongSpec)

/-- 'laws.FnExactSetParts', WHERE WHAT IT READS IS OF BULK AT MOST 1048576: true; the input reads as it did. -/
def fnExactSetPartsUptoRow : OpenClaim := { program := "ytiaccimbkghofaa", sum := "408aea2e2f0749ea536e9a444bde8de9ec93f67d94074f15c2ff87720964c20a", func := "loop.example/carding/laws.FnExactSetParts", spec := "fnExactSetParts", apart := false, narrowed := true }
def FnExactSetPartsUptoSaid : Prop := fnExactSetPartsUptoRow.holds Try.pinned (OpenSpec.upto fnExactSetPartsSpec)

/-- 'laws.FnExactDerivParts', WHERE WHAT IT READS IS OF BULK AT MOST 1048576: true; the input reads as it did. -/
def fnExactDerivPartsUptoRow : OpenClaim := { program := "ytiaccimbkghofaa", sum := "408aea2e2f0749ea536e9a444bde8de9ec93f67d94074f15c2ff87720964c20a", func := "loop.example/carding/laws.FnExactDerivParts", spec := "fnExactDerivParts", recurses := true, loops := true, apart := false, narrowed := true }
def FnExactDerivPartsUptoSaid : Prop := fnExactDerivPartsUptoRow.holds Try.pinned (OpenSpec.upto fnExactDerivPartsSpec)

end Rows
end Go.Proofs.Ytiaccimbkghofaa
