/- How many parts a tree has: the program's manyParts. -/
import Derived.Test.YtlchipjckgaclaaDoorT1
import Derived.Test.YtlchipjckgaclaaDoorBlk
namespace Go.Proofs.YtlchipjckgaclaaDoor
set_option linter.unusedSimpArgs false
set_option linter.unusedVariables false
set_option maxRecDepth 100000
open Go.RowKit

theorem many_size (r : Rex) : r.many ≤ r.size + 1 := by
  refine Rex.rec (motive_1 := fun r => r.many ≤ r.size + 1) (motive_2 := fun l => manyL l ≤ sizeL l + l.length) ?_ ?_ ?_ r
  · intro k s ks ih
    rw [Rex.many, Rex.size]
    omega
  · simp [manyL]
  · intro x xs h1 h2
    rw [manyL, sizeL, List.length_cons]
    omega
theorem manyL_size (l : List Rex) : manyL l ≤ sizeL l + l.length := by
  induction l with
  | nil => simp [manyL]
  | cons x xs ih =>
    have := many_size x
    rw [manyL, sizeL, List.length_cons]
    omega
theorem sizeL_kid {ks : List Rex} {r : Rex} (h : r ∈ ks) : r.size ≤ sizeL ks := by
  induction ks with
  | nil => cases h
  | cons x xs ih =>
    rw [sizeL]
    rcases List.mem_cons.1 h with rfl | h
    · omega
    · have := ih h; omega
def ManyOk (r : Rex) : Prop := ∀ (v1 v2 : Value) (w : World) (lo : Nat), RexV w lo r (.int .i64 r.kind) v1 v2 → r.size ≤ 1048576 →
  Calls Tryd.prog 59 #[.agg #[.int .i64 r.kind, v1, v2]] w fun e w' => e = .returned (.int .i64 r.many) ∧ Below w.heap.size w w'

set_option maxHeartbeats 2000000 in
theorem iMany_c (r : Rex) : ManyOk r := by
  refine Rex.ind (p := ManyOk) (fun k s ks ih => ?_) r
  intro v1 v2 w lo h hsz
  obtain ⟨A, c, K, ck, _, rfl, rfl, hs, hk⟩ := h.parts
  dsimp only [Rex.kind, Rex.set, Rex.kids] at hs hk ⊢
  rw [Rex.size] at hsz
  clear h
  have hlen := hk.len
  have hml := manyL_size ks
  have hb := below_alloc (Below.refl w.heap.size w) (.cells #[.int .i64 k, .slice A s.length c, .slice K ks.length ck] 36)
  have HB := Lib.hid hb
  have HK := Lib.hid hk
  clear hb hk
  go_enter Tryd.func59, Tryd.ntmps59
  go_wp2
  go_loopg [3, 9] (ks.length) (fun n m i wr => ∃ j : Nat, j + n = ks.length ∧ i = .int .i64 j ∧ ∃ x : Nat, m = .int .i64 x ∧ Hid (x + manyL (ks.drop j) = 1 + manyL ks) ∧ Hid (Below w.heap.size w wr))
  case atStart => exact ⟨0, by omega, rfl, 1, rfl, by rw [List.drop_zero]; rfl, HB⟩
  case round =>
    clear HB
    obtain ⟨j, hj, rfl, x, rfl, HM, HB⟩ := hrel
    by_cases hlt : j < ks.length
    · obtain ⟨a, r, x1, x2, rfl, HX, HD, HV, c0, c1, c2⟩ := (HK.out.below HB.out).at_ j hlt
      obtain ⟨A1, d1, K1, e1, _, rfl, rfl, _⟩ := HV.out.parts
      have hmem := List.mem_of_getElem? HX.out
      have hks := sizeL_kid hmem
      have E2 : Hid (manyL (ks.drop j) = r.many + manyL (ks.drop (j + 1))) := by show _ = _; rw [HD.out, manyL]
      have hx : x + r.many ≤ 1 + manyL ks := by have := HM.out; have := E2.out; omega
      have hb2 := below_alloc (Below.refl wr.heap.size wr) (.cells #[.int .i64 r.kind, .slice A1 r.set.length d1, .slice K1 r.kids.length e1] 36)
      have HV2 := Lib.hid (HV.out.under hb2)
      have HB2 := Lib.hid (below_then HB.out hb2)
      clear hb2
      go_wp2_with fail
      refine (ih r hmem _ _ _ _ HV2.out (by omega)).mono ?_
      rintro e w4 ⟨rfl, b4⟩
      have HB4 := Lib.hid (below_then HB2.out b4)
      clear b4 c0 c1 c2
      go_wp2
      go_roundg (gk - 1)
      case rel => exact ⟨j + 1, by omega, by go_num, x + r.many, by go_num, by have := HM.out; have := E2.out; show _ = _; omega, HB4⟩
      case measure => omega
    · go_wp2
      go_ret
      refine ⟨ret_int ?_, HB.out⟩
      have := HM.out
      rw [List.drop_of_length_le (by omega), manyL] at this
      rw [Rex.many]
      omega

end Go.Proofs.YtlchipjckgaclaaDoor
