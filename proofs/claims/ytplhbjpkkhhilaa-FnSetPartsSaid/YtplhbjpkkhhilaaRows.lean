/-
  No cell of these rows narrows 'for every input' (looked for: loops, veiled, ifaces, maps, wideKeys, modest, calm, conditions, laid).
  DERIVED. THE GIVEN ROWS OF THIS SEAT. 8 by the template 'for every input the law returns true; each argument reads behind the call as it read before'; 0 by the template 'total and deterministic' (their statements: YtplhbjpkkhhilaaTotals.lean).
  GIVEN WITH THE SEED: the statements are not yours to turn. If you find one false, say at which input.
  Laid BY PROGRAM, IN A SANDBOX (cutbox-rows.mjs): the forced cells as the released guide's own fill.sh prints them over the translation d85d53c378918903… (all of the seat's roots in one cut). By AI agents, Wed Nov 11 2026. No macro, syntax, notation, axiom, sorry.
-/
import Derived.Test.YtplhbjpkkhhilaaChecked
import GoSem.Claim
import GoSem.ClaimJoined
import GoSem.ClaimMapViews
import Derived.JoinedTies
import Derived.KernelRfl
namespace Go.Proofs.Ytplhbjpkkhhilaa
/- THE CELL 'sum', in the pinned program and in every row, IS THE sha256 OF THE DUMP (.gsa) THAT YtplhbjpkkhhilaaProg.lean LOADS. Nothing in Lean hashes anything: it is a label: what it is worth is what the hold of that sum in a sandbox is worth. -/
noncomputable def Try.pinned : Pinned := { name := "ytplhbjpkkhhilaa", sum := "d85d53c3789189035b76ec72ce5c61d317f4d3537ad4fe6e067a86e9d010f40e", checked := Try.checked }
namespace Rows
def none {H : Type} : Left H := { results := [], args := [] }

/-- 'laws.FnSetParts': WHATEVER THE INPUT: true; the input reads as it did. -/
def fnSetPartsSpec : ChangeSpec := { name := "fnSetParts", fn := fun _ => fun
  | [d] => { results := [.lit (.bool true)], args := [d] }
  | _ => none }
def fnSetPartsRow : OpenClaim := { program := "ytplhbjpkkhhilaa", sum := "d85d53c3789189035b76ec72ce5c61d317f4d3537ad4fe6e067a86e9d010f40e", func := "loop.example/carding/laws.FnSetParts", spec := "fnSetParts", apart := false }
def FnSetPartsSaid : Prop := fnSetPartsRow.holds Try.pinned (OpenSpec.ofChange fnSetPartsSpec)

/-- ITS FALSE NEIGHBOUR: 'it returns false'. Refute it at one input. -/
def fnSetPartsWrong : ChangeSpec := { name := "fnSetParts", fn := fun _ => fun
  | [d] => { results := [.lit (.bool false)], args := [d] }
  | _ => none }
def FnSetPartsWrongFalsely : Prop := fnSetPartsRow.holds Try.pinned (OpenSpec.ofChange fnSetPartsWrong)

/-- 'laws.FnRexMany': WHATEVER THE INPUT: true; the input reads as it did. -/
def fnRexManySpec : ChangeSpec := { name := "fnRexMany", fn := fun _ => fun
  | [d] => { results := [.lit (.bool true)], args := [d] }
  | _ => none }
def fnRexManyRow : OpenClaim := { program := "ytplhbjpkkhhilaa", sum := "d85d53c3789189035b76ec72ce5c61d317f4d3537ad4fe6e067a86e9d010f40e", func := "loop.example/carding/laws.FnRexMany", spec := "fnRexMany", recurses := true, apart := false }
def FnRexManySaid : Prop := fnRexManyRow.holds Try.pinned (OpenSpec.ofChange fnRexManySpec)

/-- ITS FALSE NEIGHBOUR: 'it returns false'. Refute it at one input. -/
def fnRexManyWrong : ChangeSpec := { name := "fnRexMany", fn := fun _ => fun
  | [d] => { results := [.lit (.bool false)], args := [d] }
  | _ => none }
def FnRexManyWrongFalsely : Prop := fnRexManyRow.holds Try.pinned (OpenSpec.ofChange fnRexManyWrong)

/-- 'laws.FnMatchWord': WHATEVER THE INPUT: true; the input reads as it did. -/
def fnMatchWordSpec : ChangeSpec := { name := "fnMatchWord", fn := fun _ => fun
  | [d1, d2] => { results := [.lit (.bool true)], args := [d1, d2] }
  | _ => none }
def fnMatchWordRow : OpenClaim := { program := "ytplhbjpkkhhilaa", sum := "d85d53c3789189035b76ec72ce5c61d317f4d3537ad4fe6e067a86e9d010f40e", func := "loop.example/carding/laws.FnMatchWord", spec := "fnMatchWord", recurses := true, apart := false }
def FnMatchWordSaid : Prop := fnMatchWordRow.holds Try.pinned (OpenSpec.ofChange fnMatchWordSpec)

/-- ITS FALSE NEIGHBOUR: 'it returns false'. Refute it at one input. -/
def fnMatchWordWrong : ChangeSpec := { name := "fnMatchWord", fn := fun _ => fun
  | [d1, d2] => { results := [.lit (.bool false)], args := [d1, d2] }
  | _ => none }
def FnMatchWordWrongFalsely : Prop := fnMatchWordRow.holds Try.pinned (OpenSpec.ofChange fnMatchWordWrong)

/-- 'laws.FnMatchCat': WHATEVER THE INPUT: true; the input reads as it did. -/
def fnMatchCatSpec : ChangeSpec := { name := "fnMatchCat", fn := fun _ => fun
  | [d1, d2] => { results := [.lit (.bool true)], args := [d1, d2] }
  | _ => none }
def fnMatchCatRow : OpenClaim := { program := "ytplhbjpkkhhilaa", sum := "d85d53c3789189035b76ec72ce5c61d317f4d3537ad4fe6e067a86e9d010f40e", func := "loop.example/carding/laws.FnMatchCat", spec := "fnMatchCat", recurses := true, apart := false }
def FnMatchCatSaid : Prop := fnMatchCatRow.holds Try.pinned (OpenSpec.ofChange fnMatchCatSpec)

/-- ITS FALSE NEIGHBOUR: 'it returns false'. Refute it at one input. -/
def fnMatchCatWrong : ChangeSpec := { name := "fnMatchCat", fn := fun _ => fun
  | [d1, d2] => { results := [.lit (.bool false)], args := [d1, d2] }
  | _ => none }
def FnMatchCatWrongFalsely : Prop := fnMatchCatRow.holds Try.pinned (OpenSpec.ofChange fnMatchCatWrong)

/-- 'laws.FnMatch': WHATEVER THE INPUT: true; the input reads as it did. -/
def fnMatchSpec : ChangeSpec := { name := "fnMatch", fn := fun _ => fun
  | [d] => { results := [.lit (.bool true)], args := [d] }
  | _ => none }
def fnMatchRow : OpenClaim := { program := "ytplhbjpkkhhilaa", sum := "d85d53c3789189035b76ec72ce5c61d317f4d3537ad4fe6e067a86e9d010f40e", func := "loop.example/carding/laws.FnMatch", spec := "fnMatch", recurses := true, apart := false }
def FnMatchSaid : Prop := fnMatchRow.holds Try.pinned (OpenSpec.ofChange fnMatchSpec)

/-- ITS FALSE NEIGHBOUR: 'it returns false'. Refute it at one input. -/
def fnMatchWrong : ChangeSpec := { name := "fnMatch", fn := fun _ => fun
  | [d] => { results := [.lit (.bool false)], args := [d] }
  | _ => none }
def FnMatchWrongFalsely : Prop := fnMatchRow.holds Try.pinned (OpenSpec.ofChange fnMatchWrong)

/-- 'laws.FnMatchLong': WHATEVER THE INPUT: true; the input reads as it did. -/
def fnMatchLongSpec : ChangeSpec := { name := "fnMatchLong", fn := fun _ => fun
  | [d] => { results := [.lit (.bool true)], args := [d] }
  | _ => none }
def fnMatchLongRow : OpenClaim := { program := "ytplhbjpkkhhilaa", sum := "d85d53c3789189035b76ec72ce5c61d317f4d3537ad4fe6e067a86e9d010f40e", func := "loop.example/carding/laws.FnMatchLong", spec := "fnMatchLong", recurses := true, apart := false }
def FnMatchLongSaid : Prop := fnMatchLongRow.holds Try.pinned (OpenSpec.ofChange fnMatchLongSpec)

/-- ITS FALSE NEIGHBOUR: 'it returns false'. Refute it at one input. -/
def fnMatchLongWrong : ChangeSpec := { name := "fnMatchLong", fn := fun _ => fun
  | [d] => { results := [.lit (.bool false)], args := [d] }
  | _ => none }
def FnMatchLongWrongFalsely : Prop := fnMatchLongRow.holds Try.pinned (OpenSpec.ofChange fnMatchLongWrong)

/-- 'laws.FnMatchEnds': WHATEVER THE INPUT: true; the input reads as it did. -/
def fnMatchEndsSpec : ChangeSpec := { name := "fnMatchEnds", fn := fun _ => fun
  | [d] => { results := [.lit (.bool true)], args := [d] }
  | _ => none }
def fnMatchEndsRow : OpenClaim := { program := "ytplhbjpkkhhilaa", sum := "d85d53c3789189035b76ec72ce5c61d317f4d3537ad4fe6e067a86e9d010f40e", func := "loop.example/carding/laws.FnMatchEnds", spec := "fnMatchEnds", recurses := true, apart := false }
def FnMatchEndsSaid : Prop := fnMatchEndsRow.holds Try.pinned (OpenSpec.ofChange fnMatchEndsSpec)

/-- ITS FALSE NEIGHBOUR: 'it returns false'. Refute it at one input. -/
def fnMatchEndsWrong : ChangeSpec := { name := "fnMatchEnds", fn := fun _ => fun
  | [d] => { results := [.lit (.bool false)], args := [d] }
  | _ => none }
def FnMatchEndsWrongFalsely : Prop := fnMatchEndsRow.holds Try.pinned (OpenSpec.ofChange fnMatchEndsWrong)

/-- 'laws.FnNormOne': WHATEVER THE INPUT: true; the input reads as it did. -/
def fnNormOneSpec : ChangeSpec := { name := "fnNormOne", fn := fun _ => fun
  | [d1, d2] => { results := [.lit (.bool true)], args := [d1, d2] }
  | _ => none }
def fnNormOneRow : OpenClaim := { program := "ytplhbjpkkhhilaa", sum := "d85d53c3789189035b76ec72ce5c61d317f4d3537ad4fe6e067a86e9d010f40e", func := "loop.example/carding/laws.FnNormOne", spec := "fnNormOne", recurses := true, apart := false }
def FnNormOneSaid : Prop := fnNormOneRow.holds Try.pinned (OpenSpec.ofChange fnNormOneSpec)

/-- ITS FALSE NEIGHBOUR: 'it returns false'. Refute it at one input. -/
def fnNormOneWrong : ChangeSpec := { name := "fnNormOne", fn := fun _ => fun
  | [d1, d2] => { results := [.lit (.bool false)], args := [d1, d2] }
  | _ => none }
def FnNormOneWrongFalsely : Prop := fnNormOneRow.holds Try.pinned (OpenSpec.ofChange fnNormOneWrong)

/- THE SECOND FORM. 'bulk': how many values and letters a reading holds, each counted each time it is reached (what is shared counts as often as it is met; a slice's spare places count too). A statement '..UptoSaid' is the law's where the arguments, and the package variables that the reading takes, are together of bulk at most 1048576: NARROWER than '..Said'. Prove '..Said' where nothing that the law and all that it calls make is longer than what came in: it says more and counts as full. Else prove '..UptoSaid'. A law counts once. -/
mutual
def uptoBulk {H : Type} : DataW H → Nat
  | .lit (.string bytes) => bytes.length + 1
  | .lit _ => 1
  | .nil => 1
  | .ptr d => uptoBulk d + 1
  | .slice elems spare => uptoBulkAll elems + uptoBulkAll spare + 1
  | .agg parts => uptoBulkAll parts + 1
  | .iface _ d => uptoBulk d + 1
  | .map entries => uptoBulkEntries entries + 1
  | .held _ => 1
def uptoBulkAll {H : Type} : List (DataW H) → Nat
  | [] => 0
  | d :: r => uptoBulk d + uptoBulkAll r
def uptoBulkEntries {H : Type} : List (Lit × DataW H) → Nat
  | [] => 0
  | x :: r => uptoBulkEntry x + uptoBulkEntries r
def uptoBulkEntry {H : Type} : Lit × DataW H → Nat
  | (.string bytes, d) => bytes.length + uptoBulk d + 1
  | (_, d) => uptoBulk d + 1
 end
def uptoSmall : (H : Type) → List (DataW H) → Bool := fun _ ds => decide (uptoBulkAll ds ≤ 1048576)
def OpenSpec.upto (s : _root_.Go.ChangeSpec) : _root_.Go.OpenSpec := { _root_.Go.OpenSpec.ofChange s with cond := some uptoSmall }

/-- 'laws.FnSetParts', WHERE WHAT IT READS IS OF BULK AT MOST 1048576: true; the input reads as it did. -/
def fnSetPartsUptoRow : OpenClaim := { program := "ytplhbjpkkhhilaa", sum := "d85d53c3789189035b76ec72ce5c61d317f4d3537ad4fe6e067a86e9d010f40e", func := "loop.example/carding/laws.FnSetParts", spec := "fnSetParts", apart := false, narrowed := true }
def FnSetPartsUptoSaid : Prop := fnSetPartsUptoRow.holds Try.pinned (OpenSpec.upto fnSetPartsSpec)

/-- 'laws.FnRexMany', WHERE WHAT IT READS IS OF BULK AT MOST 1048576: true; the input reads as it did. -/
def fnRexManyUptoRow : OpenClaim := { program := "ytplhbjpkkhhilaa", sum := "d85d53c3789189035b76ec72ce5c61d317f4d3537ad4fe6e067a86e9d010f40e", func := "loop.example/carding/laws.FnRexMany", spec := "fnRexMany", recurses := true, apart := false, narrowed := true }
def FnRexManyUptoSaid : Prop := fnRexManyUptoRow.holds Try.pinned (OpenSpec.upto fnRexManySpec)

/-- 'laws.FnMatchWord', WHERE WHAT IT READS IS OF BULK AT MOST 1048576: true; the input reads as it did. -/
def fnMatchWordUptoRow : OpenClaim := { program := "ytplhbjpkkhhilaa", sum := "d85d53c3789189035b76ec72ce5c61d317f4d3537ad4fe6e067a86e9d010f40e", func := "loop.example/carding/laws.FnMatchWord", spec := "fnMatchWord", recurses := true, apart := false, narrowed := true }
def FnMatchWordUptoSaid : Prop := fnMatchWordUptoRow.holds Try.pinned (OpenSpec.upto fnMatchWordSpec)

/-- 'laws.FnMatchCat', WHERE WHAT IT READS IS OF BULK AT MOST 1048576: true; the input reads as it did. -/
def fnMatchCatUptoRow : OpenClaim := { program := "ytplhbjpkkhhilaa", sum := "d85d53c3789189035b76ec72ce5c61d317f4d3537ad4fe6e067a86e9d010f40e", func := "loop.example/carding/laws.FnMatchCat", spec := "fnMatchCat", recurses := true, apart := false, narrowed := true }
def FnMatchCatUptoSaid : Prop := fnMatchCatUptoRow.holds Try.pinned (OpenSpec.upto fnMatchCatSpec)

/-- 'laws.FnMatch', WHERE WHAT IT READS IS OF BULK AT MOST 1048576: true; the input reads as it did. -/
def fnMatchUptoRow : OpenClaim := { program := "ytplhbjpkkhhilaa", sum := "d85d53c3789189035b76ec72ce5c61d317f4d3537ad4fe6e067a86e9d010f40e", func := "loop.example/carding/laws.FnMatch", spec := "fnMatch", recurses := true, apart := false, narrowed := true }
def FnMatchUptoSaid : Prop := fnMatchUptoRow.holds Try.pinned (OpenSpec.upto fnMatchSpec)

/-- 'laws.FnMatchLong', WHERE WHAT IT READS IS OF BULK AT MOST 1048576: true; the input reads as it did. -/
def fnMatchLongUptoRow : OpenClaim := { program := "ytplhbjpkkhhilaa", sum := "d85d53c3789189035b76ec72ce5c61d317f4d3537ad4fe6e067a86e9d010f40e", func := "loop.example/carding/laws.FnMatchLong", spec := "fnMatchLong", recurses := true, apart := false, narrowed := true }
def FnMatchLongUptoSaid : Prop := fnMatchLongUptoRow.holds Try.pinned (OpenSpec.upto fnMatchLongSpec)

/-- 'laws.FnMatchEnds', WHERE WHAT IT READS IS OF BULK AT MOST 1048576: true; the input reads as it did. -/
def fnMatchEndsUptoRow : OpenClaim := { program := "ytplhbjpkkhhilaa", sum := "d85d53c3789189035b76ec72ce5c61d317f4d3537ad4fe6e067a86e9d010f40e", func := "loop.example/carding/laws.FnMatchEnds", spec := "fnMatchEnds", recurses := true, apart := false, narrowed := true }
def FnMatchEndsUptoSaid : Prop := fnMatchEndsUptoRow.holds Try.pinned (OpenSpec.upto fnMatchEndsSpec)

/-- 'laws.FnNormOne', WHERE WHAT IT READS IS OF BULK AT MOST 1048576: true; the input reads as it did. -/
def fnNormOneUptoRow : OpenClaim := { program := "ytplhbjpkkhhilaa", sum := "d85d53c3789189035b76ec72ce5c61d317f4d3537ad4fe6e067a86e9d010f40e", func := "loop.example/carding/laws.FnNormOne", spec := "fnNormOne", recurses := true, apart := false, narrowed := true }
def FnNormOneUptoSaid : Prop := fnNormOneUptoRow.holds Try.pinned (OpenSpec.upto fnNormOneSpec)

end Rows
end Go.Proofs.Ytplhbjpkkhhilaa
