/- A region that draws its order, reads, and calls what makes memory but answers alike in every world above: walked once. -/
import Derived.Test.YtlchipjckgaclaaDoorLib
import Derived.Test.YtlchipjckgaclaaDoorBlk
namespace Go.Proofs.YtlchipjckgaclaaDoor
set_option linter.unusedSimpArgs false
set_option linter.unusedVariables false
set_option maxRecDepth 100000
open Go.RowKit

/-- the worlds that keep what is below -/
structure BW (w : World) : Type where
  w1 : World
  up : Below w.heap.size w w1
instance (w : World) : Nonempty (BW w) := ⟨⟨w, Below.refl _ _⟩⟩
theorem wp_region_bw {P : Program} {id : Nat} {Q : Exit → Act → World → Prop} {a : Act} {w : World} {l : List Oper} (hm : P.follows .mixedOrders = true) (hB : Region.lexB .any l.toArray = true)
    (h : wpQuiet P l.toArray (fun w' => ∃ x : BW w, w' = x.w1) (fun a' => ∀ w', (∃ x : BW w, w' = x.w1) → Q .normal a' w') l a) : (Code.region id l.toArray true).wp P Q a w :=
  wp_region_quiet (C := fun w' => ∃ x : BW w, w' = x.w1) hm hB ⟨⟨w.drew, below_drew (Below.refl _ _)⟩, rfl⟩ (by simpa using h)
theorem Calls.bw {P : Program} {f : FuncId} {args : Array Value} {W : World} {x : BW W} {v v' : Value} (hv : v = v') (h : Calls P f args x.w1 fun e w' => e = .returned v ∧ Below x.w1.heap.size x.w1 w') :
    Calls P f args x.w1 fun e w'' => e = .returned v' ∧ ∃ y : BW W, w'' = y.w1 :=
  h.mono fun _ w' ⟨he, hb⟩ => ⟨by rw [he, hv], ⟨w', below_then x.up hb⟩, rfl⟩
theorem Calls.bw_d {P : Program} {f : FuncId} {args : Array Value} {W : World} {x : BW W} {v v' : Value} (hv : v = v') (h : Calls P f args x.w1 fun e w' => e = .returned v ∧ Drawn x.w1 w') :
    Calls P f args x.w1 fun e w'' => e = .returned v' ∧ ∃ y : BW W, w'' = y.w1 :=
  h.mono fun _ w' ⟨he, hb⟩ => ⟨by rw [he, hv], ⟨w', below_then x.up hb.below⟩, rfl⟩
theorem Calls.bw_e {P : Program} {f : FuncId} {args : Array Value} {W : World} {x : BW W} {v v' : Value} (hv : v = v') (h : Calls P f args x.w1 fun e w' => e = .returned v ∧ x.w1 = w') :
    Calls P f args x.w1 fun e w'' => e = .returned v' ∧ ∃ y : BW W, w'' = y.w1 :=
  h.mono fun _ w' ⟨he, hb⟩ => ⟨by rw [he, hv], x, hb.symm⟩
theorem BW.cell {w : World} (x : BW w) {a : Addr} {u : Value} (h : w.cell? a = some u) : x.w1.cell? a = some u := (x.up.cell (World.block_lt_of_cell? w _ h)).trans h
theorem bv {a b : Bool} (h : a = b) : Value.bool a = Value.bool b := congrArg _ h
theorem iv {a b : Int} (h : a = b) : Value.int .i64 a = Value.int .i64 b := congrArg _ h

end Go.Proofs.YtlchipjckgaclaaDoor
