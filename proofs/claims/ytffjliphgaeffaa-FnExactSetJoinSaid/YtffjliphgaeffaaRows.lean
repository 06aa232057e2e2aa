/-
  No cell of these rows narrows 'for every input' (looked for: loops, veiled, ifaces, maps, wideKeys, modest, calm, conditions, laid).
  DERIVED. THE GIVEN ROWS OF THIS SEAT. 10 by the template 'for every input the law returns true; each argument reads behind the call as it read before'; 0 by the template 'total and deterministic' (their statements: YtffjliphgaeffaaTotals.lean).
  GIVEN WITH THE SEED: the statements are not yours to turn. If you find one false, say at which input.
  Laid BY PROGRAM, IN A SANDBOX (cutbox-rows.mjs): the forced cells as the released guide's own fill.sh prints them over the translation c9896e4548eb20c0… (all of the seat's roots in one cut). By AI agents, Wed Nov 11 2026. No macro, syntax, notation, axiom, sorry.
-/
import Derived.Test.YtffjliphgaeffaaChecked
import GoSem.Claim
import GoSem.ClaimJoined
import GoSem.ClaimMapViews
import Derived.JoinedTies
import Derived.KernelRfl
namespace Go.Proofs.Ytffjliphgaeffaa
/- THE CELL 'sum', in the pinned program and in every row, IS THE sha256 OF THE DUMP (.gsa) THAT YtffjliphgaeffaaProg.lean LOADS. Nothing in Lean hashes anything: it is a label: what it is worth is what the hold of that sum in a sandbox is worth. -/
noncomputable def Try.pinned : Pinned := { name := "ytffjliphgaeffaa", sum := "c9896e4548eb20c00a3b87e04fcde504fbc7854b329bbc2d36aa56991db3b332", checked := Try.checked }
namespace Rows
def none {H : Type} : Left H := { results := [], args := [] }

/-- 'laws.FnExactConstants': WHATEVER THE INPUT: true; the input reads as it did. -/
def fnExactConstantsSpec : ChangeSpec := { name := "fnExactConstants", fn := fun _ => fun
  | [] => { results := [.lit (.bool true)], args := [] }
  | _ => none }
def fnExactConstantsRow : OpenClaim := { program := "ytffjliphgaeffaa", sum := "c9896e4548eb20c00a3b87e04fcde504fbc7854b329bbc2d36aa56991db3b332", func := "loop.example/carding/laws.FnExactConstants", spec := "fnExactConstants", apart := false }
def FnExactConstantsSaid : Prop := fnExactConstantsRow.holds Try.pinned (OpenSpec.ofChange fnExactConstantsSpec)

/-- ITS FALSE NEIGHBOUR: 'it returns false'. Refute it at one input. -/
def fnExactConstantsWrong : ChangeSpec := { name := "fnExactConstants", fn := fun _ => fun
  | [] => { results := [.lit (.bool false)], args := [] }
  | _ => none }
def FnExactConstantsWrongFalsely : Prop := fnExactConstantsRow.holds Try.pinned (OpenSpec.ofChange fnExactConstantsWrong)

/-- 'laws.FnExactMatchWord': WHATEVER THE INPUT: true; the input reads as it did. -/
def fnExactMatchWordSpec : ChangeSpec := { name := "fnExactMatchWord", fn := fun _ => fun
  | [d] => { results := [.lit (.bool true)], args := [d] }
  | _ => none }
def fnExactMatchWordRow : OpenClaim := { program := "ytffjliphgaeffaa", sum := "c9896e4548eb20c00a3b87e04fcde504fbc7854b329bbc2d36aa56991db3b332", func := "loop.example/carding/laws.FnExactMatchWord", spec := "fnExactMatchWord", apart := false }
def FnExactMatchWordSaid : Prop := fnExactMatchWordRow.holds Try.pinned (OpenSpec.ofChange fnExactMatchWordSpec)

/-- ITS FALSE NEIGHBOUR: 'it returns false'. Refute it at one input. -/
def fnExactMatchWordWrong : ChangeSpec := { name := "fnExactMatchWord", fn := fun _ => fun
  | [d] => { results := [.lit (.bool false)], args := [d] }
  | _ => none }
def FnExactMatchWordWrongFalsely : Prop := fnExactMatchWordRow.holds Try.pinned (OpenSpec.ofChange fnExactMatchWordWrong)

/-- 'laws.FnExactSetOk': WHATEVER THE INPUT: true; the input reads as it did. -/
def fnExactSetOkSpec : ChangeSpec := { name := "fnExactSetOk", fn := fun _ => fun
  | [d] => { results := [.lit (.bool true)], args := [d] }
  | _ => none }
def fnExactSetOkRow : OpenClaim := { program := "ytffjliphgaeffaa", sum := "c9896e4548eb20c00a3b87e04fcde504fbc7854b329bbc2d36aa56991db3b332", func := "loop.example/carding/laws.FnExactSetOk", spec := "fnExactSetOk", apart := false }
def FnExactSetOkSaid : Prop := fnExactSetOkRow.holds Try.pinned (OpenSpec.ofChange fnExactSetOkSpec)

/-- ITS FALSE NEIGHBOUR: 'it returns false'. Refute it at one input. -/
def fnExactSetOkWrong : ChangeSpec := { name := "fnExactSetOk", fn := fun _ => fun
  | [d] => { results := [.lit (.bool false)], args := [d] }
  | _ => none }
def FnExactSetOkWrongFalsely : Prop := fnExactSetOkRow.holds Try.pinned (OpenSpec.ofChange fnExactSetOkWrong)

/-- 'laws.FnExactSetHas': WHATEVER THE INPUT: true; the input reads as it did. -/
def fnExactSetHasSpec : ChangeSpec := { name := "fnExactSetHas", fn := fun _ => fun
  | [d1, d2] => { results := [.lit (.bool true)], args := [d1, d2] }
  | _ => none }
def fnExactSetHasRow : OpenClaim := { program := "ytffjliphgaeffaa", sum := "c9896e4548eb20c00a3b87e04fcde504fbc7854b329bbc2d36aa56991db3b332", func := "loop.example/carding/laws.FnExactSetHas", spec := "fnExactSetHas", apart := false }
def FnExactSetHasSaid : Prop := fnExactSetHasRow.holds Try.pinned (OpenSpec.ofChange fnExactSetHasSpec)

/-- ITS FALSE NEIGHBOUR: 'it returns false'. Refute it at one input. -/
def fnExactSetHasWrong : ChangeSpec := { name := "fnExactSetHas", fn := fun _ => fun
  | [d1, d2] => { results := [.lit (.bool false)], args := [d1, d2] }
  | _ => none }
def FnExactSetHasWrongFalsely : Prop := fnExactSetHasRow.holds Try.pinned (OpenSpec.ofChange fnExactSetHasWrong)

/-- 'laws.FnExactSetSame': WHATEVER THE INPUT: true; the input reads as it did. -/
def fnExactSetSameSpec : ChangeSpec := { name := "fnExactSetSame", fn := fun _ => fun
  | [d1, d2] => { results := [.lit (.bool true)], args := [d1, d2] }
  | _ => none }
def fnExactSetSameRow : OpenClaim := { program := "ytffjliphgaeffaa", sum := "c9896e4548eb20c00a3b87e04fcde504fbc7854b329bbc2d36aa56991db3b332", func := "loop.example/carding/laws.FnExactSetSame", spec := "fnExactSetSame", apart := false }
def FnExactSetSameSaid : Prop := fnExactSetSameRow.holds Try.pinned (OpenSpec.ofChange fnExactSetSameSpec)

/-- ITS FALSE NEIGHBOUR: 'it returns false'. Refute it at one input. -/
def fnExactSetSameWrong : ChangeSpec := { name := "fnExactSetSame", fn := fun _ => fun
  | [d1, d2] => { results := [.lit (.bool false)], args := [d1, d2] }
  | _ => none }
def FnExactSetSameWrongFalsely : Prop := fnExactSetSameRow.holds Try.pinned (OpenSpec.ofChange fnExactSetSameWrong)

/-- 'laws.FnExactSetFirst': WHATEVER THE INPUT: true; the input reads as it did. -/
def fnExactSetFirstSpec : ChangeSpec := { name := "fnExactSetFirst", fn := fun _ => fun
  | [d] => { results := [.lit (.bool true)], args := [d] }
  | _ => none }
def fnExactSetFirstRow : OpenClaim := { program := "ytffjliphgaeffaa", sum := "c9896e4548eb20c00a3b87e04fcde504fbc7854b329bbc2d36aa56991db3b332", func := "loop.example/carding/laws.FnExactSetFirst", spec := "fnExactSetFirst", apart := false }
def FnExactSetFirstSaid : Prop := fnExactSetFirstRow.holds Try.pinned (OpenSpec.ofChange fnExactSetFirstSpec)

/-- ITS FALSE NEIGHBOUR: 'it returns false'. Refute it at one input. -/
def fnExactSetFirstWrong : ChangeSpec := { name := "fnExactSetFirst", fn := fun _ => fun
  | [d] => { results := [.lit (.bool false)], args := [d] }
  | _ => none }
def FnExactSetFirstWrongFalsely : Prop := fnExactSetFirstRow.holds Try.pinned (OpenSpec.ofChange fnExactSetFirstWrong)

/-- 'laws.FnExactSetSize': WHATEVER THE INPUT: true; the input reads as it did. -/
def fnExactSetSizeSpec : ChangeSpec := { name := "fnExactSetSize", fn := fun _ => fun
  | [d] => { results := [.lit (.bool true)], args := [d] }
  | _ => none }
def fnExactSetSizeRow : OpenClaim := { program := "ytffjliphgaeffaa", sum := "c9896e4548eb20c00a3b87e04fcde504fbc7854b329bbc2d36aa56991db3b332", func := "loop.example/carding/laws.FnExactSetSize", spec := "fnExactSetSize", apart := false }
def FnExactSetSizeSaid : Prop := fnExactSetSizeRow.holds Try.pinned (OpenSpec.ofChange fnExactSetSizeSpec)

/-- ITS FALSE NEIGHBOUR: 'it returns false'. Refute it at one input. -/
def fnExactSetSizeWrong : ChangeSpec := { name := "fnExactSetSize", fn := fun _ => fun
  | [d] => { results := [.lit (.bool false)], args := [d] }
  | _ => none }
def FnExactSetSizeWrongFalsely : Prop := fnExactSetSizeRow.holds Try.pinned (OpenSpec.ofChange fnExactSetSizeWrong)

/-- 'laws.FnExactSetJoin': WHATEVER THE INPUT: true; the input reads as it did. -/
def fnExactSetJoinSpec : ChangeSpec := { name := "fnExactSetJoin", fn := fun _ => fun
  | [d1, d2] => { results := [.lit (.bool true)], args := [d1, d2] }
  | _ => none }
def fnExactSetJoinRow : OpenClaim := { program := "ytffjliphgaeffaa", sum := "c9896e4548eb20c00a3b87e04fcde504fbc7854b329bbc2d36aa56991db3b332", func := "loop.example/carding/laws.FnExactSetJoin", spec := "fnExactSetJoin", apart := false }
def FnExactSetJoinSaid : Prop := fnExactSetJoinRow.holds Try.pinned (OpenSpec.ofChange fnExactSetJoinSpec)

/-- ITS FALSE NEIGHBOUR: 'it returns false'. Refute it at one input. -/
def fnExactSetJoinWrong : ChangeSpec := { name := "fnExactSetJoin", fn := fun _ => fun
  | [d1, d2] => { results := [.lit (.bool false)], args := [d1, d2] }
  | _ => none }
def FnExactSetJoinWrongFalsely : Prop := fnExactSetJoinRow.holds Try.pinned (OpenSpec.ofChange fnExactSetJoinWrong)

/-- 'laws.FnExactSetMeet': WHATEVER THE INPUT: true; the input reads as it did. -/
def fnExactSetMeetSpec : ChangeSpec := { name := "fnExactSetMeet", fn := fun _ => fun
  | [d1, d2] => { results := [.lit (.bool true)], args := [d1, d2] }
  | _ => none }
def fnExactSetMeetRow : OpenClaim := { program := "ytffjliphgaeffaa", sum := "c9896e4548eb20c00a3b87e04fcde504fbc7854b329bbc2d36aa56991db3b332", func := "loop.example/carding/laws.FnExactSetMeet", spec := "fnExactSetMeet", apart := false }
def FnExactSetMeetSaid : Prop := fnExactSetMeetRow.holds Try.pinned (OpenSpec.ofChange fnExactSetMeetSpec)

/-- ITS FALSE NEIGHBOUR: 'it returns false'. Refute it at one input. -/
def fnExactSetMeetWrong : ChangeSpec := { name := "fnExactSetMeet", fn := fun _ => fun
  | [d1, d2] => { results := [.lit (.bool false)], args := [d1, d2] }
  | _ => none }
def FnExactSetMeetWrongFalsely : Prop := fnExactSetMeetRow.holds Try.pinned (OpenSpec.ofChange fnExactSetMeetWrong)

/-- 'laws.FnExactSetNot': WHATEVER THE INPUT: true; the input reads as it did. -/
def fnExactSetNotSpec : ChangeSpec := { name := "fnExactSetNot", fn := fun _ => fun
  | [d] => { results := [.lit (.bool true)], args := [d] }
  | _ => none }
def fnExactSetNotRow : OpenClaim := { program := "ytffjliphgaeffaa", sum := "c9896e4548eb20c00a3b87e04fcde504fbc7854b329bbc2d36aa56991db3b332", func := "loop.example/carding/laws.FnExactSetNot", spec := "fnExactSetNot", apart := false }
def FnExactSetNotSaid : Prop := fnExactSetNotRow.holds Try.pinned (OpenSpec.ofChange fnExactSetNotSpec)

/-- ITS FALSE NEIGHBOUR: 'it returns false'. Refute it at one input. -/
def fnExactSetNotWrong : ChangeSpec := { name := "fnExactSetNot", fn := fun _ => fun
  | [d] => { results := [.lit (.bool false)], args := [d] }
  | _ => none }
def FnExactSetNotWrongFalsely : Prop := fnExactSetNotRow.holds Try.pinned (OpenSpec.ofChange fnExactSetNotWrong)

/- THE SECOND FORM. 'bulk': how many values and letters a reading holds, each counted each time it is reached (what is shared counts as often as it is met; a slice's spare places count too). A statement '..UptoSaid' is the law's where the arguments, and the package variables that the reading takes, are together of bulk at most 1048576: NARROWER than '..Said'. Prove '..Said' where nothing that the law and all that it calls make is longer than what came in: it says more and counts as full. Else prove '..UptoSaid'. A law counts once. -/
mutual
def uptoBulk {H : Type} : DataW H → Nat
  | .lit (.string bytes) => bytes.length + 1
  | .lit _ => 1
  | .nil => 1
  | .ptr d => uptoBulk d + 1
  | .slice elems spare => uptoBulkAll elems + uptoBulkAll spare + 1
  | .agg parts => uptoBulkAll parts + 1
  | .iface _ d => uptoBulk d + 1
  | .map entries => uptoBulkEntries entries + 1
  | .held _ => 1
def uptoBulkAll {H : Type} : List (DataW H) → Nat
  | [] => 0
  | d :: r => uptoBulk d + uptoBulkAll r
def uptoBulkEntries {H : Type} : List (Lit × DataW H) → Nat
  | [] => 0
  | x :: r => uptoBulkEntry x + uptoBulkEntries r
def uptoBulkEntry {H : Type} : Lit × DataW H → Nat
  | (.string bytes, d) => bytes.length + uptoBulk d + 1
  | (_, d) => uptoBulk d + 1
 end
def uptoSmall : (H : Type) → List (DataW H) → Bool := fun _ ds => decide (uptoBulkAll ds ≤ 1048576)
def OpenSpec.upto (s : _root_.Go.ChangeSpec) : _root_.Go.OpenSpec := { _root_.Go.OpenSpec.ofChange s with cond := some uptoSmall }

/-- 'laws.FnExactConstants', WHERE WHAT IT READS IS OF BULK AT MOST 1048576: true; the input reads as it did. -/
def fnExactConstantsUptoRow : OpenClaim := { program := "ytffjliphgaeffaa", sum := "c9896e4548eb20c00a3b87e04fcde504fbc7854b329bbc2d36aa56991db3b332", func := "loop.example/carding/laws.FnExactConstants", spec := "fnExactConstants", apart := false, narrowed := true }
def FnExactConstantsUptoSaid : Prop := fnExactConstantsUptoRow.holds Try.pinned (OpenSpec.upto fnExactConstantsSpec)

/-- 'laws.FnExactMatchWord', WHERE WHAT IT READS IS OF BULK AT MOST 1048576: true; the input reads as it did. -/
def fnExactMatchWordUptoRow : OpenClaim := { program := "ytffjliphgaeffaa", sum := "c9896e4548eb20c00a3b87e04fcde504fbc7854b329bbc2d36aa56991db3b332", func := "loop.example/carding/laws.FnExactMatchWord", spec := "fnExactMatchWord", apart := false, narrowed := true }
def FnExactMatchWordUptoSaid : Prop := fnExactMatchWordUptoRow.holds Try.pinned (OpenSpec.upto fnExactMatchWordSpec)

/-- 'laws.FnExactSetOk', WHERE WHAT IT READS IS OF BULK AT MOST 1048576: true; the input reads as it did. -/
def fnExactSetOkUptoRow : OpenClaim := { program := "ytffjliphgaeffaa", sum := "c9896e4548eb20c00a3b87e04fcde504fbc7854b329bbc2d36aa56991db3b332", func := "loop.example/carding/laws.FnExactSetOk", spec := "fnExactSetOk", apart := false, narrowed := true }
def FnExactSetOkUptoSaid : Prop := fnExactSetOkUptoRow.holds Try.pinned (OpenSpec.upto fnExactSetOkSpec)

/-- 'laws.FnExactSetHas', WHERE WHAT IT READS IS OF BULK AT MOST 1048576: true; the input reads as it did. -/
def fnExactSetHasUptoRow : OpenClaim := { program := "ytffjliphgaeffaa", sum := "c9896e4548eb20c00a3b87e04fcde504fbc7854b329bbc2d36aa56991db3b332", func := "loop.example/carding/laws.FnExactSetHas", spec := "fnExactSetHas", apart := false, narrowed := true }
def FnExactSetHasUptoSaid : Prop := fnExactSetHasUptoRow.holds Try.pinned (OpenSpec.upto fnExactSetHasSpec)

/-- 'laws.FnExactSetSame', WHERE WHAT IT READS IS OF BULK AT MOST 1048576: true; the input reads as it did. -/
def fnExactSetSameUptoRow : OpenClaim := { program := "ytffjliphgaeffaa", sum := "c9896e4548eb20c00a3b87e04fcde504fbc7854b329bbc2d36aa56991db3b332", func := "loop.example/carding/laws.FnExactSetSame", spec := "fnExactSetSame", apart := false, narrowed := true }
def FnExactSetSameUptoSaid : Prop := fnExactSetSameUptoRow.holds Try.pinned (OpenSpec.upto fnExactSetSameSpec)

/-- 'laws.FnExactSetFirst', WHERE WHAT IT READS IS OF BULK AT MOST 1048576: true; the input reads as it did. -/
def fnExactSetFirstUptoRow : OpenClaim := { program := "ytffjliphgaeffaa", sum := "c9896e4548eb20c00a3b87e04fcde504fbc7854b329bbc2d36aa56991db3b332", func := "loop.example/carding/laws.FnExactSetFirst", spec := "fnExactSetFirst", apart := false, narrowed := true }
def FnExactSetFirstUptoSaid : Prop := fnExactSetFirstUptoRow.holds Try.pinned (OpenSpec.upto fnExactSetFirstSpec)

/-- 'laws.FnExactSetSize', WHERE WHAT IT READS IS OF BULK AT MOST 1048576: true; the input reads as it did. -/
def fnExactSetSizeUptoRow : OpenClaim := { program := "ytffjliphgaeffaa", sum := "c9896e4548eb20c00a3b87e04fcde504fbc7854b329bbc2d36aa56991db3b332", func := "loop.example/carding/laws.FnExactSetSize", spec := "fnExactSetSize", apart := false, narrowed := true }
def FnExactSetSizeUptoSaid : Prop := fnExactSetSizeUptoRow.holds Try.pinned (OpenSpec.upto fnExactSetSizeSpec)

/-- 'laws.FnExactSetJoin', WHERE WHAT IT READS IS OF BULK AT MOST 1048576: true; the input reads as it did. -/
def fnExactSetJoinUptoRow : OpenClaim := { program := "ytffjliphgaeffaa", sum := "c9896e4548eb20c00a3b87e04fcde504fbc7854b329bbc2d36aa56991db3b332", func := "loop.example/carding/laws.FnExactSetJoin", spec := "fnExactSetJoin", apart := false, narrowed := true }
def FnExactSetJoinUptoSaid : Prop := fnExactSetJoinUptoRow.holds Try.pinned (OpenSpec.upto fnExactSetJoinSpec)

/-- 'laws.FnExactSetMeet', WHERE WHAT IT READS IS OF BULK AT MOST 1048576: true; the input reads as it did. -/
def fnExactSetMeetUptoRow : OpenClaim := { program := "ytffjliphgaeffaa", sum := "c9896e4548eb20c00a3b87e04fcde504fbc7854b329bbc2d36aa56991db3b332", func := "loop.example/carding/laws.FnExactSetMeet", spec := "fnExactSetMeet", apart := false, narrowed := true }
def FnExactSetMeetUptoSaid : Prop := fnExactSetMeetUptoRow.holds Try.pinned (OpenSpec.upto fnExactSetMeetSpec)

/-- 'laws.FnExactSetNot', WHERE WHAT IT READS IS OF BULK AT MOST 1048576: true; the input reads as it did. -/
def fnExactSetNotUptoRow : OpenClaim := { program := "ytffjliphgaeffaa", sum := "c9896e4548eb20c00a3b87e04fcde504fbc7854b329bbc2d36aa56991db3b332", func := "loop.example/carding/laws.FnExactSetNot", spec := "fnExactSetNot", apart := false, narrowed := true }
def FnExactSetNotUptoSaid : Prop := fnExactSetNotUptoRow.holds Try.pinned (OpenSpec.upto fnExactSetNotSpec)

end Rows
end Go.Proofs.Ytffjliphgaeffaa
