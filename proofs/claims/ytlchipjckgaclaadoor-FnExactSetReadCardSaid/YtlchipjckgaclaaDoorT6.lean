/- How many parts a tree has: the reference's l2Many. -/
import Derived.Test.YtlchipjckgaclaaDoorT5
namespace Go.Proofs.YtlchipjckgaclaaDoor
set_option linter.unusedSimpArgs false
set_option linter.unusedVariables false
set_option maxRecDepth 100000
open Go.RowKit

mutual
/-- the parts down to a depth -/
def Rex.manyTo : Rex → Nat → Nat
  | .mk _ _ _, 0 => 1
  | .mk _ _ ks, d + 1 => 1 + manyToL ks d
def manyToL : List Rex → Nat → Nat
  | [], _ => 0
  | r :: rs, d => r.manyTo d + manyToL rs d
end
theorem manyTo_le (r : Rex) : ∀ d, r.manyTo d ≤ r.many := by
  refine Rex.rec (motive_1 := fun r => ∀ d, r.manyTo d ≤ r.many) (motive_2 := fun l => ∀ d, manyToL l d ≤ manyL l) ?_ ?_ ?_ r
  · intro k s ks ih d
    cases d with
    | zero => rw [Rex.manyTo, Rex.many]; omega
    | succ d => have := ih d; rw [Rex.manyTo, Rex.many]; omega
  · intro d; simp [manyToL]
  · intro x xs h1 h2 d
    have := h1 d
    have := h2 d
    rw [manyToL, manyL]
    omega
theorem manyToL_le (l : List Rex) (d : Nat) : manyToL l d ≤ manyL l := by
  induction l with
  | nil => simp [manyToL]
  | cons x xs ih => have := manyTo_le x d; rw [manyToL, manyL]; omega
def ManyToOk (r : Rex) : Prop := ∀ (d : Nat) (v1 v2 : Value) (w : World) (lo : Nat), d ≤ 1000 → RexV w lo r (.int .i64 r.kind) v1 v2 → r.size ≤ 1048576 →
  Calls Tryd.prog 57 #[.agg #[.int .i64 r.kind, v1, v2], .int .i64 d] w fun e w' => e = .returned (.int .i64 (r.manyTo d)) ∧ Below w.heap.size w w'

set_option maxHeartbeats 2000000 in
theorem sMany_c (r : Rex) : ManyToOk r := by
  refine Rex.ind (p := ManyToOk) (fun k s ks ih => ?_) r
  intro d v1 v2 w lo hd h hsz
  obtain ⟨A, c, K, ck, _, rfl, rfl, hs, hk⟩ := h.parts
  dsimp only [Rex.kind, Rex.set, Rex.kids] at hs hk ⊢
  rw [Rex.size] at hsz
  clear h
  have hlen := hk.len
  have hml := manyL_size ks
  have hb := below_alloc (Below.refl w.heap.size w) (.cells #[.int .i64 k, .slice A s.length c, .slice K ks.length ck] 36)
  have hX := blk_new w #[.int .i64 k, .slice A s.length c, .slice K ks.length ck] 36
  have HB := Lib.hid hb
  have HK := Lib.hid hk
  have HX := Lib.hid hX
  clear hb hk hX
  go_enter Tryd.func57, Tryd.ntmps57
  go_wp2
  go_loopg [5, 6] (ks.length) (fun n m i wr => ∃ j : Nat, j + n = ks.length ∧ i = .int .i64 j ∧ ∃ x : Nat, m = .int .i64 x ∧ Hid (x + (match d with | 0 => 0 | d + 1 => manyToL (ks.drop j) d) = Rex.manyTo (.mk k s ks) d) ∧ Hid (Blk wr w.heap.size #[.int .i64 k, .slice A s.length c, .slice K ks.length ck] 36) ∧ Hid (Below w.heap.size w wr))
  case atStart =>
    refine ⟨0, by omega, rfl, 1, rfl, ?_, HX, HB⟩
    show _ = _
    cases d with
    | zero => rfl
    | succ d => rw [List.drop_zero, Rex.manyTo]
  case round =>
    clear HB HX
    obtain ⟨j, hj, rfl, x, rfl, HM, HX, HB⟩ := hrel
    have n2 : wr.cell? ⟨w.heap.size, 2, none⟩ = some (.slice K ks.length ck) := by rw [HX.out.cell]; rfl
    by_cases hlt : j < ks.length
    · have t1 : decide (j < ks.length) = true := decide_eq_true hlt
      cases d with
      | zero =>
        go_wp2
        go_ret
        exact ⟨ret_int (by have := HM.out; simp at this; omega), HB.out⟩
      | succ d =>
        obtain ⟨a, r, x1, x2, rfl, HE, HD, HV, c0, c1, c2⟩ := (HK.out.below HB.out).at_ j hlt
        have hmem := List.mem_of_getElem? HE.out
        have hks := sizeL_kid hmem
        have E2 : Hid (manyToL (ks.drop j) d = r.manyTo d + manyToL (ks.drop (j + 1)) d) := by show _ = _; rw [HD.out, manyToL]
        have HT := Lib.hid (manyTo_le (.mk k s ks) (d + 1))
        have hx : x + r.manyTo d ≤ 1 + manyL ks := by
          have h1 := HM.out
          have h2 := E2.out
          have h3 := HT.out
          rw [Rex.many] at h3
          simp only at h1
          omega
        have t2 : (0 : Int) < ((d + 1 : Nat) : Int) := by omega
        go_wp2_with fail
        refine (ih r hmem d _ _ _ _ (by omega) HV.out (by omega)).mono ?_
        rintro e w4 ⟨rfl, b4⟩
        have HB4 := Lib.hid (below_then HB.out b4)
        have HX4 := Lib.hid (HX.out.below b4)
        clear b4 c0 c1 c2 n2
        go_wp2
        go_roundg (gk - 1)
        case rel =>
          refine ⟨j + 1, by omega, by go_num, x + r.manyTo d, by go_num, ?_, HX4, HB4⟩
          show _ = _
          have h1 := HM.out
          have h2 := E2.out
          omega
        case measure => omega
    · go_wp2
      go_ret
      refine ⟨ret_int ?_, HB.out⟩
      have := HM.out
      cases d with
      | zero => simp at this; omega
      | succ d => simp only [List.drop_of_length_le (show ks.length ≤ j by omega), manyToL] at this; omega

end Go.Proofs.YtlchipjckgaclaaDoor
