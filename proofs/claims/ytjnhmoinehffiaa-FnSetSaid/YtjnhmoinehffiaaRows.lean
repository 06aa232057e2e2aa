/-
  No cell of these rows narrows 'for every input' (looked for: loops, veiled, ifaces, maps, wideKeys, modest, calm, conditions, laid).
  DERIVED. THE GIVEN ROWS OF THIS SEAT. 5 by the template 'for every input the law returns true; each argument reads behind the call as it read before'; 0 by the template 'total and deterministic' (their statements: YtjnhmoinehffiaaTotals.lean).
  GIVEN WITH THE SEED: the statements are not yours to turn. If you find one false, say at which input.
  Laid BY PROGRAM, IN A SANDBOX (cutbox-rows.mjs): the forced cells as the released guide's own fill.sh prints them over the translation a01d91701faa630b… (all of the seat's roots in one cut). By AI agents, Wed Nov 11 2026. No macro, syntax, notation, axiom, sorry.
-/
import Derived.Test.YtjnhmoinehffiaaChecked
import GoSem.Claim
import GoSem.ClaimJoined
import GoSem.ClaimMapViews
import Derived.JoinedTies
import Derived.KernelRfl
namespace Go.Proofs.Ytjnhmoinehffiaa
/- THE CELL 'sum', in the pinned program and in every row, IS THE sha256 OF THE DUMP (.gsa) THAT YtjnhmoinehffiaaProg.lean LOADS. Nothing in Lean hashes anything: it is a label: what it is worth is what the hold of that sum in a sandbox is worth. -/
noncomputable def Try.pinned : Pinned := { name := "ytjnhmoinehffiaa", sum := "a01d91701faa630bc2f94961f67045937092024fe6024337f769466e042691cb", checked := Try.checked }
namespace Rows
def none {H : Type} : Left H := { results := [], args := [] }

/-- 'laws.FnSetAlgebra': WHATEVER THE INPUT: true; the input reads as it did. -/
def fnSetAlgebraSpec : ChangeSpec := { name := "fnSetAlgebra", fn := fun _ => fun
  | [d1, d2] => { results := [.lit (.bool true)], args := [d1, d2] }
  | _ => none }
def fnSetAlgebraRow : OpenClaim := { program := "ytjnhmoinehffiaa", sum := "a01d91701faa630bc2f94961f67045937092024fe6024337f769466e042691cb", func := "loop.example/carding/laws.FnSetAlgebra", spec := "fnSetAlgebra", apart := false }
def FnSetAlgebraSaid : Prop := fnSetAlgebraRow.holds Try.pinned (OpenSpec.ofChange fnSetAlgebraSpec)

/-- ITS FALSE NEIGHBOUR: 'it returns false'. Refute it at one input. -/
def fnSetAlgebraWrong : ChangeSpec := { name := "fnSetAlgebra", fn := fun _ => fun
  | [d1, d2] => { results := [.lit (.bool false)], args := [d1, d2] }
  | _ => none }
def FnSetAlgebraWrongFalsely : Prop := fnSetAlgebraRow.holds Try.pinned (OpenSpec.ofChange fnSetAlgebraWrong)

/-- 'laws.FnSetFirst': WHATEVER THE INPUT: true; the input reads as it did. -/
def fnSetFirstSpec : ChangeSpec := { name := "fnSetFirst", fn := fun _ => fun
  | [d] => { results := [.lit (.bool true)], args := [d] }
  | _ => none }
def fnSetFirstRow : OpenClaim := { program := "ytjnhmoinehffiaa", sum := "a01d91701faa630bc2f94961f67045937092024fe6024337f769466e042691cb", func := "loop.example/carding/laws.FnSetFirst", spec := "fnSetFirst", apart := false }
def FnSetFirstSaid : Prop := fnSetFirstRow.holds Try.pinned (OpenSpec.ofChange fnSetFirstSpec)

/-- ITS FALSE NEIGHBOUR: 'it returns false'. Refute it at one input. -/
def fnSetFirstWrong : ChangeSpec := { name := "fnSetFirst", fn := fun _ => fun
  | [d] => { results := [.lit (.bool false)], args := [d] }
  | _ => none }
def FnSetFirstWrongFalsely : Prop := fnSetFirstRow.holds Try.pinned (OpenSpec.ofChange fnSetFirstWrong)

/-- 'laws.FnSet': WHATEVER THE INPUT: true; the input reads as it did. -/
def fnSetSpec : ChangeSpec := { name := "fnSet", fn := fun _ => fun
  | [d] => { results := [.lit (.bool true)], args := [d] }
  | _ => none }
def fnSetRow : OpenClaim := { program := "ytjnhmoinehffiaa", sum := "a01d91701faa630bc2f94961f67045937092024fe6024337f769466e042691cb", func := "loop.example/carding/laws.FnSet", spec := "fnSet", apart := false }
def FnSetSaid : Prop := fnSetRow.holds Try.pinned (OpenSpec.ofChange fnSetSpec)

/-- ITS FALSE NEIGHBOUR: 'it returns false'. Refute it at one input. -/
def fnSetWrong : ChangeSpec := { name := "fnSet", fn := fun _ => fun
  | [d] => { results := [.lit (.bool false)], args := [d] }
  | _ => none }
def FnSetWrongFalsely : Prop := fnSetRow.holds Try.pinned (OpenSpec.ofChange fnSetWrong)

/-- 'laws.FnSetParts': WHATEVER THE INPUT: true; the input reads as it did. -/
def fnSetPartsSpec : ChangeSpec := { name := "fnSetParts", fn := fun _ => fun
  | [d] => { results := [.lit (.bool true)], args := [d] }
  | _ => none }
def fnSetPartsRow : OpenClaim := { program := "ytjnhmoinehffiaa", sum := "a01d91701faa630bc2f94961f67045937092024fe6024337f769466e042691cb", func := "loop.example/carding/laws.FnSetParts", spec := "fnSetParts", apart := false }
def FnSetPartsSaid : Prop := fnSetPartsRow.holds Try.pinned (OpenSpec.ofChange fnSetPartsSpec)

/-- ITS FALSE NEIGHBOUR: 'it returns false'. Refute it at one input. -/
def fnSetPartsWrong : ChangeSpec := { name := "fnSetParts", fn := fun _ => fun
  | [d] => { results := [.lit (.bool false)], args := [d] }
  | _ => none }
def FnSetPartsWrongFalsely : Prop := fnSetPartsRow.holds Try.pinned (OpenSpec.ofChange fnSetPartsWrong)

/-- 'laws.FnExactSetParts': WHATEVER THE INPUT: true; the input reads as it did. -/
def fnExactSetPartsSpec : ChangeSpec := { name := "fnExactSetParts", fn := fun _ => fun
  | [d] => { results := [.lit (.bool true)], args := [d] }
  | _ => none }
def fnExactSetPartsRow : OpenClaim := { program := "ytjnhmoinehffiaa", sum := "a01d91701faa630bc2f94961f67045937092024fe6024337f769466e042691cb", func := "loop.example/carding/laws.FnExactSetParts", spec := "fnExactSetParts", apart := false }
def FnExactSetPartsSaid : Prop := fnExactSetPartsRow.holds Try.pinned (OpenSpec.ofChange fnExactSetPartsSpec)

/-- ITS FALSE NEIGHBOUR: 'it returns false'. Refute it at one input. -/
def fnExactSetPartsWrong : ChangeSpec := { name := "fnExactSetParts", fn := fun _ => fun
  | [d] => { results := [.lit (.bool false)], args := [d] }
  | _ => none }
def FnExactSetPartsWrongFalsely : Prop := fnExactSetPartsRow.holds Try.pinned (OpenSpec.ofChange fnExactSetPartsWrong)

/- THE SECOND FORM. 'bulk': how many values and letters a reading holds, each counted each time it is reached (what is shared counts as often as it is met; a slice's spare places count too). A statement '..UptoSaid' is the law's where the arguments, and the package variables that the reading takes, are together of bulk at most 1048576: NARROWER than '..Said'. Prove '..Said' where nothing that the law and all that it calls make is longer than what came in: it says more and counts as full. Else prove '..UptoSaid'. A law counts once. -/
mutual
def uptoBulk {H : Type} : DataW H → Nat
  | .lit (.string bytes) => bytes.length + 1
  | .lit _ => 1
  | .nil => 1
  | .ptr d => uptoBulk d + 1
  | .slice elems spare => uptoBulkAll elems + uptoBulkAll spare + 1
  | .agg parts => uptoBulkAll parts + 1
  | .iface _ d => uptoBulk d + 1
  | .map entries => uptoBulkEntries entries + 1
  | .held _ => 1
def uptoBulkAll {H : Type} : List (DataW H) → Nat
  | [] => 0
  | d :: r => uptoBulk d + uptoBulkAll r
def uptoBulkEntries {H : Type} : List (Lit × DataW H) → Nat
  | [] => 0
  | x :: r => uptoBulkEntry x + uptoBulkEntries r
def uptoBulkEntry {H : Type} : Lit × DataW H → Nat
  | (.string bytes, d) => bytes.length + uptoBulk d + 1
  | (_, d) => uptoBulk d + 1
 end
def uptoSmall : (H : Type) → List (DataW H) → Bool := fun _ ds => decide (uptoBulkAll ds ≤ 1048576)
def OpenSpec.upto (s : _root_.Go.ChangeSpec) : _root_.Go.OpenSpec := { _root_.Go.OpenSpec.ofChange s with cond := some uptoSmall }

/-- 'laws.FnSetAlgebra', WHERE WHAT IT READS IS OF BULK AT MOST 1048576: true; the input reads as it did. -/
def fnSetAlgebraUptoRow : OpenClaim := { program := "ytjnhmoinehffiaa", sum := "a01d91701faa630bc2f94961f67045937092024fe6024337f769466e042691cb", func := "loop.example/carding/laws.FnSetAlgebra", spec := "fnSetAlgebra", apart := false, narrowed := true }
def FnSetAlgebraUptoSaid : Prop := fnSetAlgebraUptoRow.holds Try.pinned (OpenSpec.upto fnSetAlgebraSpec)

/-- 'laws.FnSetFirst', WHERE WHAT IT READS IS OF BULK AT MOST 1048576: true; the input reads as it did. -/
def fnSetFirstUptoRow : OpenClaim := { program := "ytjnhmoinehffiaa", sum := "a01d91701faa630bc2f94961f67045937092024fe6024337f769466e042691cb", func := "loop.example/carding/laws.FnSetFirst", spec := "fnSetFirst", apart := false, narrowed := true }
def FnSetFirstUptoSaid : Prop := fnSetFirstUptoRow.holds Try.pinned (OpenSpec.upto fnSetFirstSpec)

/-- 'laws.FnSet', WHERE WHAT IT READS IS OF BULK AT MOST 1048576: true; the input reads as it did. -/
def fnSetUptoRow : OpenClaim := { program := "ytjnhmoinehffiaa", sum := "a01d91701faa630bc2f94961f67045937092024fe6024337f769466e042691cb", func := "loop.example/carding/laws.FnSet", spec := "fnSet", apart := false, narrowed := true }
def FnSetUptoSaid : Prop := fnSetUptoRow.holds Try.pinned (OpenSpec.upto fnSetSpec)

/-- 'laws.FnSetParts', WHERE WHAT IT READS IS OF BULK AT MOST 1048576: true; the input reads as it did. -/
def fnSetPartsUptoRow : OpenClaim := { program := "ytjnhmoinehffiaa", sum := "a01d91701faa630bc2f94961f67045937092024fe6024337f769466e042691cb", func := "loop.example/carding/laws.FnSetParts", spec := "fnSetParts", apart := false, narrowed := true }
def FnSetPartsUptoSaid : Prop := fnSetPartsUptoRow.holds Try.pinned (OpenSpec.upto fnSetPartsSpec)

/-- 'laws.FnExactSetParts', WHERE WHAT IT READS IS OF BULK AT MOST 1048576: true; the input reads as it did. -/
def fnExactSetPartsUptoRow : OpenClaim := { program := "ytjnhmoinehffiaa", sum := "a01d91701faa630bc2f94961f67045937092024fe6024337f769466e042691cb", func := "loop.example/carding/laws.FnExactSetParts", spec := "fnExactSetParts", apart := false, narrowed := true }
def FnExactSetPartsUptoSaid : Prop := fnExactSetPartsUptoRow.holds Try.pinned (OpenSpec.upto fnExactSetPartsSpec)

end Rows
end Go.Proofs.Ytjnhmoinehffiaa
