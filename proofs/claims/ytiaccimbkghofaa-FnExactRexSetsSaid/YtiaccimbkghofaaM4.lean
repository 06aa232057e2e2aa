/- Blocks and worlds behind marks; how many numbers a tree holds. -/
import Derived.Test.YtiaccimbkghofaaM3
import Derived.Test.YtiaccimbkghofaaT2
import Derived.Test.YtiaccimbkghofaaTr
namespace Go.Proofs.Ytiaccimbkghofaa
set_option linter.unusedSimpArgs false
set_option linter.unusedVariables false
open Go.RowKit

theorem Blk.touch {w w' : World} {g : Nat} {cs : Array Value} {t : TypeId} {fp : List Nat} (h : Blk w g cs t) (ht : Touch fp w w') (hn : g ∉ fp) : Blk w' g cs t := ⟨(ht.block g h.lt hn).trans h.eq⟩
theorem below_touch {w w1 w' : World} {fp : List Nat} (h : Below w.heap.size w w1) (ht : Touch fp w1 w') (hf : ∀ b, b ∈ fp → w.heap.size ≤ b) : Below w.heap.size w w' := h.trans (ht.below hf h.size)
theorem cnt_size (r : Rex) : r.cnt ≤ 2 * r.size := by
  refine Rex.rec (motive_1 := fun r => r.cnt ≤ 2 * r.size) (motive_2 := fun l => cntL l ≤ 2 * sizeL l + l.length) ?_ ?_ ?_ r
  · intro k s ks ih
    rw [Rex.cnt, Rex.size]
    omega
  · simp [cntL]
  · intro x xs h1 h2
    rw [cntL, sizeL, List.length_cons]
    omega

end Go.Proofs.Ytiaccimbkghofaa
