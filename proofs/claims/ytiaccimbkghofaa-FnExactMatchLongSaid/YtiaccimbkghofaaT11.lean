/- RexNull, of the program and of the reference. -/
import Derived.Test.YtiaccimbkghofaaT10
namespace Go.Proofs.Ytiaccimbkghofaa
set_option linter.unusedSimpArgs false
set_option linter.unusedVariables false
open Go.RowKit

def rexNull (r : Rex) : Bool := rexOk r && null r
set_option maxHeartbeats 1000000 in
theorem iRexNull_c (r : Rex) (v1 v2 : Value) (w : World) (lo : Nat) (h : RexV w lo r (.int .i64 r.kind) v1 v2) (hsz : r.size ≤ 1048576) :
    Calls Try.prog 24 #[.agg #[.int .i64 r.kind, v1, v2]] w fun e w' => e = .returned (.bool (rexNull r)) ∧ Below w.heap.size w w' := by
  obtain ⟨A, c, K, ck, _, rfl, rfl, hs, hk⟩ := h.parts
  obtain ⟨wa, hwa⟩ : ∃ x, x = w.alloc (.cells #[.int .i64 r.kind, .slice A r.set.length c, .slice K r.kids.length ck] 31) := ⟨_, rfl⟩
  have hb : Below w.heap.size w wa := by rw [hwa]; exact below_alloc (Below.refl _ _) _
  have m0 : Blk wa w.heap.size #[.int .i64 r.kind, .slice A r.set.length c, .slice K r.kids.length ck] 31 := by rw [hwa]; exact blk_new w _ _
  have HV := Lib.hid (h.under hb)
  have HB := Lib.hid hb
  have M0 := Lib.hid m0
  clear hb m0 hs hk h
  replace hwa := hwa.symm
  have n0 : wa.cell? ⟨w.heap.size, 0, none⟩ = some (.int .i64 r.kind) := by rw [M0.out.cell]; rfl
  have n0' : wa.cell? ⟨w.heap.size, 1, none⟩ = some (.slice A r.set.length c) := by rw [M0.out.cell]; rfl
  have n0'' : wa.cell? ⟨w.heap.size, 2, none⟩ = some (.slice K r.kids.length ck) := by rw [M0.out.cell]; rfl
  go_enter Try.func24, Try.ntmps24
  go_wp2_with fail
  clear hwa
  refine (iRexOk_c _ _ _ _ _ HV.out hsz).mono ?_
  rintro e w1 ⟨rfl, b1⟩
  have H1 := Lib.hid b1
  replace M0 := Lib.hid (M0.out.below b1)
  clear n0 n0' n0'' b1
  have n0 : w1.cell? ⟨w.heap.size, 0, none⟩ = some (.int .i64 r.kind) := by rw [M0.out.cell]; rfl
  have n0' : w1.cell? ⟨w.heap.size, 1, none⟩ = some (.slice A r.set.length c) := by rw [M0.out.cell]; rfl
  have n0'' : w1.cell? ⟨w.heap.size, 2, none⟩ = some (.slice K r.kids.length ck) := by rw [M0.out.cell]; rfl
  by_cases hf : rexOk r = true
  · have HF := Lib.hid hf
    rw [hf]
    clear hf
    go_wp2_with fail
    refine (iNull_c r 8 _ _ _ _ (rexOk_formed HF.out) (HV.out.under H1.out)).mono ?_
    rintro e w2 ⟨rfl, b2⟩
    clear n0 n0' n0''
    go_wp2
    go_ret
    exact ⟨ret_bool (by rw [rexNull, HF.out]; rfl), below_then HB.out (below_then H1.out b2)⟩
  · have HF : Hid (rexOk r = false) := by show _ = _; simpa using hf
    rw [HF.out]
    clear hf
    go_wp2
    go_ret
    exact ⟨ret_bool (by rw [rexNull, HF.out]; rfl), below_then HB.out H1.out⟩
set_option maxHeartbeats 1000000 in
theorem sRexNull_c (r : Rex) (v1 v2 : Value) (w : World) (lo : Nat) (h : RexV w lo r (.int .i64 r.kind) v1 v2) (hsz : r.size ≤ 1048576) :
    Calls Try.prog 23 #[.agg #[.int .i64 r.kind, v1, v2]] w fun e w' => e = .returned (.bool (rexNull r)) ∧ Below w.heap.size w w' := by
  obtain ⟨A, c, K, ck, _, rfl, rfl, hs, hk⟩ := h.parts
  obtain ⟨wa, hwa⟩ : ∃ x, x = w.alloc (.cells #[.int .i64 r.kind, .slice A r.set.length c, .slice K r.kids.length ck] 31) := ⟨_, rfl⟩
  have hb : Below w.heap.size w wa := by rw [hwa]; exact below_alloc (Below.refl _ _) _
  have m0 : Blk wa w.heap.size #[.int .i64 r.kind, .slice A r.set.length c, .slice K r.kids.length ck] 31 := by rw [hwa]; exact blk_new w _ _
  have HV := Lib.hid (h.under hb)
  have HB := Lib.hid hb
  have M0 := Lib.hid m0
  clear hb m0 hs hk h
  replace hwa := hwa.symm
  have n0 : wa.cell? ⟨w.heap.size, 0, none⟩ = some (.int .i64 r.kind) := by rw [M0.out.cell]; rfl
  have n0' : wa.cell? ⟨w.heap.size, 1, none⟩ = some (.slice A r.set.length c) := by rw [M0.out.cell]; rfl
  have n0'' : wa.cell? ⟨w.heap.size, 2, none⟩ = some (.slice K r.kids.length ck) := by rw [M0.out.cell]; rfl
  go_enter Try.func23, Try.ntmps23
  go_wp2_with fail
  clear hwa
  refine (sRexOk_c _ _ _ _ _ HV.out hsz).mono ?_
  rintro e w1 ⟨rfl, b1⟩
  have H1 := Lib.hid b1
  replace M0 := Lib.hid (M0.out.below b1)
  clear n0 n0' n0'' b1
  have n0 : w1.cell? ⟨w.heap.size, 0, none⟩ = some (.int .i64 r.kind) := by rw [M0.out.cell]; rfl
  have n0' : w1.cell? ⟨w.heap.size, 1, none⟩ = some (.slice A r.set.length c) := by rw [M0.out.cell]; rfl
  have n0'' : w1.cell? ⟨w.heap.size, 2, none⟩ = some (.slice K r.kids.length ck) := by rw [M0.out.cell]; rfl
  by_cases hf : rexOk r = true
  · have HF := Lib.hid hf
    rw [hf]
    clear hf
    go_wp2_with fail
    refine (sNull_c r 8 _ _ _ _ (rexOk_formed HF.out) (HV.out.under H1.out)).mono ?_
    rintro e w2 ⟨rfl, b2⟩
    clear n0 n0' n0''
    go_wp2
    go_ret
    exact ⟨ret_bool (by rw [rexNull, HF.out]; rfl), below_then HB.out (below_then H1.out b2)⟩
  · have HF : Hid (rexOk r = false) := by show _ = _; simpa using hf
    rw [HF.out]
    clear hf
    go_wp2
    go_ret
    exact ⟨ret_bool (by rw [rexNull, HF.out]; rfl), below_then HB.out H1.out⟩

end Go.Proofs.Ytiaccimbkghofaa
