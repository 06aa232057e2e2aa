/- The contracts of the laws' functions on trees, bare. -/
import Derived.Test.YtlchipjckgaclaaDoorT2
import Derived.Deep.RegionHeld3
namespace Go.Proofs.YtlchipjckgaclaaDoor
set_option linter.unusedSimpArgs false
set_option linter.unusedVariables false
set_option maxRecDepth 100000
open Go.RowKit

theorem toRex_r (r : Rex) (v1 v2 : Value) (w : World) (lo : Nat) (h : RexV w lo r (.int .i64 r.kind) v1 v2) (hx : r.size ≤ 1048576) :
    Calls Tryd.prog 16 #[.agg #[.int .i64 r.kind, v1, v2]] w fun e w' => ∃ u1 u2, e = .returned (.agg #[.int .i64 r.kind, u1, u2]) ∧ RexV w' w.heap.size r (.int .i64 r.kind) u1 u2 ∧ Below w.heap.size w w' := toRex_v r v1 v2 w lo h hx
theorem eqRex_r (r r' : Rex) (v1 v2 u1 u2 : Value) (w : World) (lo lo' : Nat) (h : RexV w lo r (.int .i64 r.kind) v1 v2) (h' : RexV w lo' r' (.int .i64 r'.kind) u1 u2) :
    Calls Tryd.prog 18 #[.agg #[.int .i64 r.kind, v1, v2], .agg #[.int .i64 r'.kind, u1, u2]] w fun e w' => e = .returned (.bool (rexEq r r')) ∧ Below w.heap.size w w' := eqRex_c r r' v1 v2 u1 u2 w lo lo' h h'

end Go.Proofs.YtlchipjckgaclaaDoor
