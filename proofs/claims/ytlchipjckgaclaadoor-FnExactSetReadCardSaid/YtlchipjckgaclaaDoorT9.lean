/- RexOk, RexMany, of the program and of the reference. -/
import Derived.Test.YtlchipjckgaclaaDoorT7
import Derived.Test.YtlchipjckgaclaaDoorT8
import Derived.Test.YtlchipjckgaclaaDoorT6p
namespace Go.Proofs.YtlchipjckgaclaaDoor
set_option linter.unusedSimpArgs false
set_option linter.unusedVariables false
set_option maxRecDepth 100000
open Go.RowKit


theorem rexOk_no1 {r : Rex} (h : formed 8 r = false) : rexOk r = false := by rw [rexOk, h]; rfl
theorem rexOk_of {r : Rex} (h : formed 8 r = true) : rexOk r = decide (r.many ≤ 24) := by rw [rexOk, h]; rfl
theorem dec_le (n : Nat) : decide ((n : Int) ≤ 24) = decide (n ≤ 24) := by
  by_cases h : n ≤ 24
  · rw [decide_eq_true h, decide_eq_true (by omega)]
  · rw [decide_eq_false h, decide_eq_false (by omega)]

set_option maxHeartbeats 1000000 in
theorem iRexOk_c (r : Rex) (v1 v2 : Value) (w : World) (lo : Nat) (h : RexV w lo r (.int .i64 r.kind) v1 v2) (hsz : r.size ≤ 1048576) :
    Calls Tryd.prog 25 #[.agg #[.int .i64 r.kind, v1, v2]] w fun e w' => e = .returned (.bool (rexOk r)) ∧ Below w.heap.size w w' := by
  obtain ⟨A, c, K, ck, _, rfl, rfl, hs, hk⟩ := h.parts
  obtain ⟨wa, hwa⟩ : ∃ x, x = w.alloc (.cells #[.int .i64 r.kind, .slice A r.set.length c, .slice K r.kids.length ck] 36) := ⟨_, rfl⟩
  have hb : Below w.heap.size w wa := by rw [hwa]; exact below_alloc (Below.refl _ _) _
  have m0 : Blk wa w.heap.size #[.int .i64 r.kind, .slice A r.set.length c, .slice K r.kids.length ck] 36 := by rw [hwa]; exact blk_new w _ _
  have HV := Lib.hid (h.under hb)
  have HB := Lib.hid hb
  have M0 := Lib.hid m0
  clear hb m0 hs hk h
  have N0 : ∀ x : BW wa, x.w1.cell? ⟨w.heap.size, 0, none⟩ = some (.int .i64 r.kind) := fun x => by rw [(M0.out.below x.up).cell]; rfl
  have N1 : ∀ x : BW wa, x.w1.cell? ⟨w.heap.size, 1, none⟩ = some (.slice A r.set.length c) := fun x => by rw [(M0.out.below x.up).cell]; rfl
  have N2 : ∀ x : BW wa, x.w1.cell? ⟨w.heap.size, 2, none⟩ = some (.slice K r.kids.length ck) := fun x => by rw [(M0.out.below x.up).cell]; rfl
  go_enter Tryd.func25, Tryd.ntmps25
  go_wp2_with fail
  rw [← hwa]
  clear hwa
  refine (iForm_c _ 8 _ _ _ _ (by omega) HV.out).mono ?_
  rintro e w1 ⟨rfl, b1⟩
  have Hw1 : Hid (Below wa.heap.size wa w1) := b1
  have n0 := N0 ⟨w1, b1⟩
  have n1 := N1 ⟨w1, b1⟩
  have n2 := N2 ⟨w1, b1⟩
  dsimp only at n0 n1 n2
  clear N0 N1 N2 b1
  by_cases hf : formed 8 r = true
  · have HF := Lib.hid hf
    rw [hf]
    clear hf
    go_wp2_with fail
    refine (iMany_c _ _ _ _ _ (HV.out.under Hw1.out) hsz).mono ?_
    rintro e w2 ⟨rfl, b2⟩
    clear n0 n1 n2
    go_wp2
    go_ret
    exact ⟨ret_bool (by rw [rexOk_of HF.out]; simp only [dec_le]), below_then HB.out (below_then Hw1.out b2)⟩
  · have HF : Hid (formed 8 r = false) := by show _ = _; simpa using hf
    rw [HF.out]
    clear hf
    go_wp2
    go_ret
    exact ⟨ret_bool (rexOk_no1 HF.out).symm, below_then HB.out Hw1.out⟩
set_option maxHeartbeats 1000000 in
theorem sRexOk_c (r : Rex) (v1 v2 : Value) (w : World) (lo : Nat) (h : RexV w lo r (.int .i64 r.kind) v1 v2) (hsz : r.size ≤ 1048576) :
    Calls Tryd.prog 24 #[.agg #[.int .i64 r.kind, v1, v2]] w fun e w' => e = .returned (.bool (rexOk r)) ∧ Below w.heap.size w w' := by
  obtain ⟨A, c, K, ck, _, rfl, rfl, hs, hk⟩ := h.parts
  obtain ⟨wa, hwa⟩ : ∃ x, x = w.alloc (.cells #[.int .i64 r.kind, .slice A r.set.length c, .slice K r.kids.length ck] 36) := ⟨_, rfl⟩
  have hb : Below w.heap.size w wa := by rw [hwa]; exact below_alloc (Below.refl _ _) _
  have m0 : Blk wa w.heap.size #[.int .i64 r.kind, .slice A r.set.length c, .slice K r.kids.length ck] 36 := by rw [hwa]; exact blk_new w _ _
  have HV := Lib.hid (h.under hb)
  have HB := Lib.hid hb
  have M0 := Lib.hid m0
  clear hb m0 hs hk h
  have N0 : ∀ x : BW wa, x.w1.cell? ⟨w.heap.size, 0, none⟩ = some (.int .i64 r.kind) := fun x => by rw [(M0.out.below x.up).cell]; rfl
  have N1 : ∀ x : BW wa, x.w1.cell? ⟨w.heap.size, 1, none⟩ = some (.slice A r.set.length c) := fun x => by rw [(M0.out.below x.up).cell]; rfl
  have N2 : ∀ x : BW wa, x.w1.cell? ⟨w.heap.size, 2, none⟩ = some (.slice K r.kids.length ck) := fun x => by rw [(M0.out.below x.up).cell]; rfl
  go_enter Tryd.func24, Tryd.ntmps24
  go_wp2_with fail
  rw [← hwa]
  clear hwa
  refine (sForm_c _ 8 _ _ _ _ (by omega) HV.out).mono ?_
  rintro e w1 ⟨rfl, b1⟩
  have Hw1 : Hid (Below wa.heap.size wa w1) := b1
  have n0 := N0 ⟨w1, b1⟩
  have n1 := N1 ⟨w1, b1⟩
  have n2 := N2 ⟨w1, b1⟩
  dsimp only at n0 n1 n2
  clear N0 N1 N2 b1
  by_cases hf : formed 8 r = true
  · have HF := Lib.hid hf
    rw [hf]
    clear hf
    go_wp2_with fail
    refine (sMany_c _ 8 _ _ _ _ (by omega) (HV.out.under Hw1.out) hsz).mono ?_
    rintro e w2 ⟨rfl, b2⟩
    clear n0 n1 n2
    go_wp2
    go_ret
    exact ⟨ret_bool (by rw [rexOk_of HF.out]; simp only [dec_le]; rw [formed_many 8 r HF.out]), below_then HB.out (below_then Hw1.out b2)⟩
  · have HF : Hid (formed 8 r = false) := by show _ = _; simpa using hf
    rw [HF.out]
    clear hf
    go_wp2
    go_ret
    exact ⟨ret_bool (rexOk_no1 HF.out).symm, below_then HB.out Hw1.out⟩

def rexMany (r : Rex) : Int := if rexOk r then r.many else 0
theorem rexMany_ok {r : Rex} (h : rexOk r = true) : rexMany r = r.many := by rw [rexMany, h]; rfl
theorem rexMany_no {r : Rex} (h : rexOk r = false) : rexMany r = 0 := by rw [rexMany, h]; rfl
theorem rexOk_formed {r : Rex} (h : rexOk r = true) : formed 8 r = true := by rw [rexOk, Bool.and_eq_true] at h; exact h.1
end Go.Proofs.YtlchipjckgaclaaDoor
