/- Texts joined for the claims: T6 T6p T9 T10 E1 W3 E2 W1h. -/
import Derived.Test.YtplhbjpkkhhilaaG2
import Derived.Test.YtplhbjpkkhhilaaG1
import Derived.Lib.Strings
import Derived.Lib.IndexBytes
import Derived.WalkSpells
import Derived.Deep.RegionHeld3
import Derived.StillTailTactics
import Derived.RegionTactic
import Derived.BigRegion
/- How many parts a tree has: the reference's l2Many. -/
namespace Go.Proofs.Ytplhbjpkkhhilaa
set_option linter.unusedSimpArgs false
set_option linter.unusedVariables false
open Go.RowKit

mutual
/-- the parts down to a depth -/
def Rex.manyTo : Rex → Nat → Nat
  | .mk _ _ _, 0 => 1
  | .mk _ _ ks, d + 1 => 1 + manyToL ks d
def manyToL : List Rex → Nat → Nat
  | [], _ => 0
  | r :: rs, d => r.manyTo d + manyToL rs d
end
theorem manyTo_le (r : Rex) : ∀ d, r.manyTo d ≤ r.many := by
  refine Rex.rec (motive_1 := fun r => ∀ d, r.manyTo d ≤ r.many) (motive_2 := fun l => ∀ d, manyToL l d ≤ manyL l) ?_ ?_ ?_ r
  · intro k s ks ih d
    cases d with
    | zero => rw [Rex.manyTo, Rex.many]; omega
    | succ d => have := ih d; rw [Rex.manyTo, Rex.many]; omega
  · intro d; simp [manyToL]
  · intro x xs h1 h2 d
    have := h1 d
    have := h2 d
    rw [manyToL, manyL]
    omega
theorem manyToL_le (l : List Rex) (d : Nat) : manyToL l d ≤ manyL l := by
  induction l with
  | nil => simp [manyToL]
  | cons x xs ih => have := manyTo_le x d; rw [manyToL, manyL]; omega
def ManyToOk (r : Rex) : Prop := ∀ (d : Nat) (v1 v2 : Value) (w : World) (lo : Nat), d ≤ 1000 → RexV w lo r (.int .i64 r.kind) v1 v2 → r.size ≤ 1048576 →
  Calls Try.prog 54 #[.agg #[.int .i64 r.kind, v1, v2], .int .i64 d] w fun e w' => e = .returned (.int .i64 (r.manyTo d)) ∧ Below w.heap.size w w'

set_option maxHeartbeats 2000000 in
theorem sMany_c (r : Rex) : ManyToOk r := by
  refine Rex.ind (p := ManyToOk) (fun k s ks ih => ?_) r
  intro d v1 v2 w lo hd h hsz
  obtain ⟨A, c, K, ck, _, rfl, rfl, hs, hk⟩ := h.parts
  dsimp only [Rex.kind, Rex.set, Rex.kids] at hs hk ⊢
  rw [Rex.size] at hsz
  clear h
  have hlen := hk.len
  have hml := manyL_size ks
  have hb := below_alloc (Below.refl w.heap.size w) (.cells #[.int .i64 k, .slice A s.length c, .slice K ks.length ck] 34)
  have hX := blk_new w #[.int .i64 k, .slice A s.length c, .slice K ks.length ck] 34
  have HB := Lib.hid hb
  have HK := Lib.hid hk
  have HX := Lib.hid hX
  clear hb hk hX
  go_enter Try.func54, Try.ntmps54
  go_wp2
  go_loopg [5, 6] (ks.length) (fun n m i wr => ∃ j : Nat, j + n = ks.length ∧ i = .int .i64 j ∧ ∃ x : Nat, m = .int .i64 x ∧ Hid (x + (match d with | 0 => 0 | d + 1 => manyToL (ks.drop j) d) = Rex.manyTo (.mk k s ks) d) ∧ Hid (Blk wr w.heap.size #[.int .i64 k, .slice A s.length c, .slice K ks.length ck] 34) ∧ Hid (Below w.heap.size w wr))
  case atStart =>
    refine ⟨0, by omega, rfl, 1, rfl, ?_, HX, HB⟩
    show _ = _
    cases d with
    | zero => rfl
    | succ d => rw [List.drop_zero, Rex.manyTo]
  case round =>
    clear HB HX
    obtain ⟨j, hj, rfl, x, rfl, HM, HX, HB⟩ := hrel
    have n2 : wr.cell? ⟨w.heap.size, 2, none⟩ = some (.slice K ks.length ck) := by rw [HX.out.cell]; rfl
    by_cases hlt : j < ks.length
    · have t1 : decide (j < ks.length) = true := decide_eq_true hlt
      cases d with
      | zero =>
        go_wp2
        go_ret
        exact ⟨ret_int (by have := HM.out; simp at this; omega), HB.out⟩
      | succ d =>
        obtain ⟨a, r, x1, x2, rfl, HE, HD, HV, c0, c1, c2⟩ := (HK.out.below HB.out).at_ j hlt
        have hmem := List.mem_of_getElem? HE.out
        have hks := sizeL_kid hmem
        have E2 : Hid (manyToL (ks.drop j) d = r.manyTo d + manyToL (ks.drop (j + 1)) d) := by show _ = _; rw [HD.out, manyToL]
        have HT := Lib.hid (manyTo_le (.mk k s ks) (d + 1))
        have hx : x + r.manyTo d ≤ 1 + manyL ks := by
          have h1 := HM.out
          have h2 := E2.out
          have h3 := HT.out
          rw [Rex.many] at h3
          simp only at h1
          omega
        have t2 : (0 : Int) < ((d + 1 : Nat) : Int) := by omega
        go_wp2_with fail
        refine (ih r hmem d _ _ _ _ (by omega) HV.out (by omega)).mono ?_
        rintro e w4 ⟨rfl, b4⟩
        have HB4 := Lib.hid (below_then HB.out b4)
        have HX4 := Lib.hid (HX.out.below b4)
        clear b4 c0 c1 c2 n2
        go_wp2
        go_roundg (gk - 1)
        case rel =>
          refine ⟨j + 1, by omega, by go_num, x + r.manyTo d, by go_num, ?_, HX4, HB4⟩
          show _ = _
          have h1 := HM.out
          have h2 := E2.out
          omega
        case measure => omega
    · go_wp2
      go_ret
      refine ⟨ret_int ?_, HB.out⟩
      have := HM.out
      cases d with
      | zero => simp at this; omega
      | succ d => simp only [List.drop_of_length_le (show ks.length ≤ j by omega), manyToL] at this; omega

end Go.Proofs.Ytplhbjpkkhhilaa

/- What is formed to a depth has no parts below it. -/
namespace Go.Proofs.Ytplhbjpkkhhilaa

theorem manyToL_eq {d : Nat} {l : List Rex} (h : ∀ r, r ∈ l → r.manyTo d = r.many) : manyToL l d = manyL l := by
  induction l with
  | nil => rfl
  | cons x xs ih => rw [manyToL, manyL, h x (by simp), ih fun r hr => h r (by simp [hr])]
theorem formed_many (d : Nat) : ∀ r, formed d r = true → r.manyTo d = r.many := by
  induction d with
  | zero => intro r h; simp [formed] at h
  | succ d ih =>
    intro r h
    obtain ⟨k, s, ks⟩ := r
    rw [formed, Bool.and_eq_true, List.all_eq_true] at h
    have e : manyToL ks d = manyL ks := manyToL_eq fun r hr => ih r (h.2 r hr)
    rw [Rex.manyTo, Rex.many, e]

end Go.Proofs.Ytplhbjpkkhhilaa

/- RexOk, RexMany, of the program and of the reference. -/
namespace Go.Proofs.Ytplhbjpkkhhilaa
set_option linter.unusedSimpArgs false
set_option linter.unusedVariables false
open Go.RowKit


theorem rexOk_no1 {r : Rex} (h : formed 8 r = false) : rexOk r = false := by rw [rexOk, h]; rfl
theorem rexOk_of {r : Rex} (h : formed 8 r = true) : rexOk r = decide (r.many ≤ 24) := by rw [rexOk, h]; rfl
theorem dec_le (n : Nat) : decide ((n : Int) ≤ 24) = decide (n ≤ 24) := by
  by_cases h : n ≤ 24
  · rw [decide_eq_true h, decide_eq_true (by omega)]
  · rw [decide_eq_false h, decide_eq_false (by omega)]

set_option maxHeartbeats 1000000 in
theorem iRexOk_c (r : Rex) (v1 v2 : Value) (w : World) (lo : Nat) (h : RexV w lo r (.int .i64 r.kind) v1 v2) (hsz : r.size ≤ 1048576) :
    Calls Try.prog 22 #[.agg #[.int .i64 r.kind, v1, v2]] w fun e w' => e = .returned (.bool (rexOk r)) ∧ Below w.heap.size w w' := by
  obtain ⟨A, c, K, ck, _, rfl, rfl, hs, hk⟩ := h.parts
  obtain ⟨wa, hwa⟩ : ∃ x, x = w.alloc (.cells #[.int .i64 r.kind, .slice A r.set.length c, .slice K r.kids.length ck] 34) := ⟨_, rfl⟩
  have hb : Below w.heap.size w wa := by rw [hwa]; exact below_alloc (Below.refl _ _) _
  have m0 : Blk wa w.heap.size #[.int .i64 r.kind, .slice A r.set.length c, .slice K r.kids.length ck] 34 := by rw [hwa]; exact blk_new w _ _
  have HV := Lib.hid (h.under hb)
  have HB := Lib.hid hb
  have M0 := Lib.hid m0
  clear hb m0 hs hk h
  have N0 : ∀ x : BW wa, x.w1.cell? ⟨w.heap.size, 0, none⟩ = some (.int .i64 r.kind) := fun x => by rw [(M0.out.below x.up).cell]; rfl
  have N1 : ∀ x : BW wa, x.w1.cell? ⟨w.heap.size, 1, none⟩ = some (.slice A r.set.length c) := fun x => by rw [(M0.out.below x.up).cell]; rfl
  have N2 : ∀ x : BW wa, x.w1.cell? ⟨w.heap.size, 2, none⟩ = some (.slice K r.kids.length ck) := fun x => by rw [(M0.out.below x.up).cell]; rfl
  go_enter Try.func22, Try.ntmps22
  go_wp2_with fail
  rw [← hwa]
  clear hwa
  refine (iForm_c _ 8 _ _ _ _ (by omega) HV.out).mono ?_
  rintro e w1 ⟨rfl, b1⟩
  have Hw1 : Hid (Below wa.heap.size wa w1) := b1
  have n0 := N0 ⟨w1, b1⟩
  have n1 := N1 ⟨w1, b1⟩
  have n2 := N2 ⟨w1, b1⟩
  dsimp only at n0 n1 n2
  clear N0 N1 N2 b1
  by_cases hf : formed 8 r = true
  · have HF := Lib.hid hf
    rw [hf]
    clear hf
    go_wp2_with fail
    refine (iMany_c _ _ _ _ _ (HV.out.under Hw1.out) hsz).mono ?_
    rintro e w2 ⟨rfl, b2⟩
    clear n0 n1 n2
    go_wp2
    go_ret
    exact ⟨ret_bool (by rw [rexOk_of HF.out]; simp only [dec_le]), below_then HB.out (below_then Hw1.out b2)⟩
  · have HF : Hid (formed 8 r = false) := by show _ = _; simpa using hf
    rw [HF.out]
    clear hf
    go_wp2
    go_ret
    exact ⟨ret_bool (rexOk_no1 HF.out).symm, below_then HB.out Hw1.out⟩
set_option maxHeartbeats 1000000 in
theorem sRexOk_c (r : Rex) (v1 v2 : Value) (w : World) (lo : Nat) (h : RexV w lo r (.int .i64 r.kind) v1 v2) (hsz : r.size ≤ 1048576) :
    Calls Try.prog 23 #[.agg #[.int .i64 r.kind, v1, v2]] w fun e w' => e = .returned (.bool (rexOk r)) ∧ Below w.heap.size w w' := by
  obtain ⟨A, c, K, ck, _, rfl, rfl, hs, hk⟩ := h.parts
  obtain ⟨wa, hwa⟩ : ∃ x, x = w.alloc (.cells #[.int .i64 r.kind, .slice A r.set.length c, .slice K r.kids.length ck] 34) := ⟨_, rfl⟩
  have hb : Below w.heap.size w wa := by rw [hwa]; exact below_alloc (Below.refl _ _) _
  have m0 : Blk wa w.heap.size #[.int .i64 r.kind, .slice A r.set.length c, .slice K r.kids.length ck] 34 := by rw [hwa]; exact blk_new w _ _
  have HV := Lib.hid (h.under hb)
  have HB := Lib.hid hb
  have M0 := Lib.hid m0
  clear hb m0 hs hk h
  have N0 : ∀ x : BW wa, x.w1.cell? ⟨w.heap.size, 0, none⟩ = some (.int .i64 r.kind) := fun x => by rw [(M0.out.below x.up).cell]; rfl
  have N1 : ∀ x : BW wa, x.w1.cell? ⟨w.heap.size, 1, none⟩ = some (.slice A r.set.length c) := fun x => by rw [(M0.out.below x.up).cell]; rfl
  have N2 : ∀ x : BW wa, x.w1.cell? ⟨w.heap.size, 2, none⟩ = some (.slice K r.kids.length ck) := fun x => by rw [(M0.out.below x.up).cell]; rfl
  go_enter Try.func23, Try.ntmps23
  go_wp2_with fail
  rw [← hwa]
  clear hwa
  refine (sForm_c _ 8 _ _ _ _ (by omega) HV.out).mono ?_
  rintro e w1 ⟨rfl, b1⟩
  have Hw1 : Hid (Below wa.heap.size wa w1) := b1
  have n0 := N0 ⟨w1, b1⟩
  have n1 := N1 ⟨w1, b1⟩
  have n2 := N2 ⟨w1, b1⟩
  dsimp only at n0 n1 n2
  clear N0 N1 N2 b1
  by_cases hf : formed 8 r = true
  · have HF := Lib.hid hf
    rw [hf]
    clear hf
    go_wp2_with fail
    refine (sMany_c _ 8 _ _ _ _ (by omega) (HV.out.under Hw1.out) hsz).mono ?_
    rintro e w2 ⟨rfl, b2⟩
    clear n0 n1 n2
    go_wp2
    go_ret
    exact ⟨ret_bool (by rw [rexOk_of HF.out]; simp only [dec_le]; rw [formed_many 8 r HF.out]), below_then HB.out (below_then Hw1.out b2)⟩
  · have HF : Hid (formed 8 r = false) := by show _ = _; simpa using hf
    rw [HF.out]
    clear hf
    go_wp2
    go_ret
    exact ⟨ret_bool (rexOk_no1 HF.out).symm, below_then HB.out Hw1.out⟩

def rexMany (r : Rex) : Int := if rexOk r then r.many else 0
theorem rexMany_ok {r : Rex} (h : rexOk r = true) : rexMany r = r.many := by rw [rexMany, h]; rfl
theorem rexMany_no {r : Rex} (h : rexOk r = false) : rexMany r = 0 := by rw [rexMany, h]; rfl
theorem rexOk_formed {r : Rex} (h : rexOk r = true) : formed 8 r = true := by rw [rexOk, Bool.and_eq_true] at h; exact h.1
set_option maxHeartbeats 1000000 in
theorem iRexMany_c (r : Rex) (v1 v2 : Value) (w : World) (lo : Nat) (h : RexV w lo r (.int .i64 r.kind) v1 v2) (hsz : r.size ≤ 1048576) :
    Calls Try.prog 20 #[.agg #[.int .i64 r.kind, v1, v2]] w fun e w' => e = .returned (.int .i64 (rexMany r)) ∧ Below w.heap.size w w' := by
  obtain ⟨A, c, K, ck, _, rfl, rfl, hs, hk⟩ := h.parts
  obtain ⟨wa, hwa⟩ : ∃ x, x = w.alloc (.cells #[.int .i64 r.kind, .slice A r.set.length c, .slice K r.kids.length ck] 34) := ⟨_, rfl⟩
  have hb : Below w.heap.size w wa := by rw [hwa]; exact below_alloc (Below.refl _ _) _
  have m0 : Blk wa w.heap.size #[.int .i64 r.kind, .slice A r.set.length c, .slice K r.kids.length ck] 34 := by rw [hwa]; exact blk_new w _ _
  have HV := Lib.hid (h.under hb)
  have HB := Lib.hid hb
  have M0 := Lib.hid m0
  clear hb m0 hs hk h
  have N0 : ∀ x : BW wa, x.w1.cell? ⟨w.heap.size, 0, none⟩ = some (.int .i64 r.kind) := fun x => by rw [(M0.out.below x.up).cell]; rfl
  have N1 : ∀ x : BW wa, x.w1.cell? ⟨w.heap.size, 1, none⟩ = some (.slice A r.set.length c) := fun x => by rw [(M0.out.below x.up).cell]; rfl
  have N2 : ∀ x : BW wa, x.w1.cell? ⟨w.heap.size, 2, none⟩ = some (.slice K r.kids.length ck) := fun x => by rw [(M0.out.below x.up).cell]; rfl
  go_enter Try.func20, Try.ntmps20
  go_wp2_with fail
  rw [← hwa]
  clear hwa
  refine (iRexOk_c _ _ _ _ _ HV.out hsz).mono ?_
  rintro e w1 ⟨rfl, b1⟩
  have Hw1 : Hid (Below wa.heap.size wa w1) := b1
  have n0 := N0 ⟨w1, b1⟩
  have n1 := N1 ⟨w1, b1⟩
  have n2 := N2 ⟨w1, b1⟩
  dsimp only at n0 n1 n2
  clear N0 N1 N2 b1
  by_cases hf : rexOk r = true
  · have HF := Lib.hid hf
    rw [hf]
    clear hf
    go_wp2_with fail
    refine (iMany_c _ _ _ _ _ (HV.out.under Hw1.out) hsz).mono ?_
    rintro e w2 ⟨rfl, b2⟩
    clear n0 n1 n2
    go_wp2
    go_ret
    exact ⟨ret_int (by rw [rexMany_ok HF.out]), below_then HB.out (below_then Hw1.out b2)⟩
  · have HF : Hid (rexOk r = false) := by show _ = _; simpa using hf
    rw [HF.out]
    clear hf
    go_wp2
    go_ret
    exact ⟨ret_int (rexMany_no HF.out).symm, below_then HB.out Hw1.out⟩
set_option maxHeartbeats 1000000 in
theorem sRexMany_c (r : Rex) (v1 v2 : Value) (w : World) (lo : Nat) (h : RexV w lo r (.int .i64 r.kind) v1 v2) (hsz : r.size ≤ 1048576) :
    Calls Try.prog 21 #[.agg #[.int .i64 r.kind, v1, v2]] w fun e w' => e = .returned (.int .i64 (rexMany r)) ∧ Below w.heap.size w w' := by
  obtain ⟨A, c, K, ck, _, rfl, rfl, hs, hk⟩ := h.parts
  obtain ⟨wa, hwa⟩ : ∃ x, x = w.alloc (.cells #[.int .i64 r.kind, .slice A r.set.length c, .slice K r.kids.length ck] 34) := ⟨_, rfl⟩
  have hb : Below w.heap.size w wa := by rw [hwa]; exact below_alloc (Below.refl _ _) _
  have m0 : Blk wa w.heap.size #[.int .i64 r.kind, .slice A r.set.length c, .slice K r.kids.length ck] 34 := by rw [hwa]; exact blk_new w _ _
  have HV := Lib.hid (h.under hb)
  have HB := Lib.hid hb
  have M0 := Lib.hid m0
  clear hb m0 hs hk h
  have N0 : ∀ x : BW wa, x.w1.cell? ⟨w.heap.size, 0, none⟩ = some (.int .i64 r.kind) := fun x => by rw [(M0.out.below x.up).cell]; rfl
  have N1 : ∀ x : BW wa, x.w1.cell? ⟨w.heap.size, 1, none⟩ = some (.slice A r.set.length c) := fun x => by rw [(M0.out.below x.up).cell]; rfl
  have N2 : ∀ x : BW wa, x.w1.cell? ⟨w.heap.size, 2, none⟩ = some (.slice K r.kids.length ck) := fun x => by rw [(M0.out.below x.up).cell]; rfl
  go_enter Try.func21, Try.ntmps21
  go_wp2_with fail
  rw [← hwa]
  clear hwa
  refine (sRexOk_c _ _ _ _ _ HV.out hsz).mono ?_
  rintro e w1 ⟨rfl, b1⟩
  have Hw1 : Hid (Below wa.heap.size wa w1) := b1
  have n0 := N0 ⟨w1, b1⟩
  have n1 := N1 ⟨w1, b1⟩
  have n2 := N2 ⟨w1, b1⟩
  dsimp only at n0 n1 n2
  clear N0 N1 N2 b1
  by_cases hf : rexOk r = true
  · have HF := Lib.hid hf
    rw [hf]
    clear hf
    go_wp2_with fail
    refine (sMany_c _ 8 _ _ _ _ (by omega) (HV.out.under Hw1.out) hsz).mono ?_
    rintro e w2 ⟨rfl, b2⟩
    clear n0 n1 n2
    go_wp2
    go_ret
    exact ⟨ret_int (by rw [rexMany_ok HF.out]; rw [formed_many 8 r (rexOk_formed HF.out)]), below_then HB.out (below_then Hw1.out b2)⟩
  · have HF : Hid (rexOk r = false) := by show _ = _; simpa using hf
    rw [HF.out]
    clear hf
    go_wp2
    go_ret
    exact ⟨ret_int (rexMany_no HF.out).symm, below_then HB.out Hw1.out⟩

end Go.Proofs.Ytplhbjpkkhhilaa

/- null, l2Null: whether the empty text is like a tree. -/
namespace Go.Proofs.Ytplhbjpkkhhilaa
set_option linter.unusedSimpArgs false
set_option linter.unusedVariables false
open Go.RowKit

theorem kidsOf_cases {k : Int} {n : Nat} (h : kidsOf k = n) : (k = 1 ∨ k = 2) ∧ n = 0 ∨ (k = 5 ∨ k = 7) ∧ n = 1 ∨ (k = 3 ∨ k = 4 ∨ k = 6) ∧ n = 2 := by
  unfold kidsOf at h
  split at h
  · left; omega
  · split at h
    · right; left; omega
    · split at h
      · right; right; omega
      · omega
theorem formed_node {d : Nat} {k : Int} {s : List Sp} {ks : List Rex} (h : formed d (.mk k s ks) = true) : kidsOf k = ks.length ∧ (k = 1 ∨ s = []) ∧ setOk s = true ∧ 0 < d ∧ ∀ r, r ∈ ks → formed (d - 1) r = true := by
  cases d with
  | zero => simp [formed] at h
  | succ d =>
    rw [formed, Bool.and_eq_true, List.all_eq_true] at h
    obtain ⟨h1, h2⟩ := h
    simp only [nodeOk, Rex.kind, Rex.set, Rex.kids, Bool.and_eq_true, Bool.or_eq_true, decide_eq_true_eq, List.isEmpty_iff] at h1
    exact ⟨of_decide_eq_true h1.1.1, h1.1.2.imp of_decide_eq_true id, h1.2, by omega, h2⟩
theorem formed_shape {d : Nat} {k : Int} {s : List Sp} {ks : List Rex} (h : formed d (.mk k s ks) = true) :
    (k = 1 ∨ k = 2) ∧ ks = [] ∨ (k = 5 ∨ k = 7) ∧ (∃ a, ks = [a] ∧ formed (d - 1) a = true) ∨ (k = 3 ∨ k = 4 ∨ k = 6) ∧ ∃ a b, ks = [a, b] ∧ formed (d - 1) a = true ∧ formed (d - 1) b = true := by
  obtain ⟨h1, _, _, _, h5⟩ := formed_node h
  rcases kidsOf_cases h1 with ⟨e, hn⟩ | ⟨e, hn⟩ | ⟨e, hn⟩
  · exact .inl ⟨e, List.length_eq_zero_iff.1 hn⟩
  · obtain ⟨a, rfl⟩ := List.length_eq_one_iff.1 hn
    exact .inr (.inl ⟨e, a, rfl, h5 a (by simp)⟩)
  · match ks, hn with
    | [a, b], _ => exact .inr (.inr ⟨e, a, b, rfl, h5 a (by simp), h5 b (by simp)⟩)
/-- the kids of one and of two -/
theorem Kids.one {w : World} {lo : Nat} {K : Option Addr} {ck : Nat} {x : Rex} (h : Kids w lo K ck [x]) :
    ∃ a v1 v2, K = some a ∧ RexV w lo x (.int .i64 x.kind) v1 v2 ∧ w.cell? a = some (.int .i64 x.kind) ∧ w.cell? ⟨a.block, a.off + 1, none⟩ = some v1 ∧ w.cell? ⟨a.block, a.off + 2, none⟩ = some v2 := by
  obtain ⟨a, r, v1, v2, e, HX, _, HV, c0, c1, c2⟩ := h.at_ 0 (by simp)
  obtain rfl : x = r := by simpa using HX.out
  rw [show a.add (0 * 3) = a by simp [Addr.add]] at c0 c1 c2
  exact ⟨a, v1, v2, e, HV.out, c0, c1, c2⟩
theorem Kids.two {w : World} {lo : Nat} {K : Option Addr} {ck : Nat} {x y : Rex} (h : Kids w lo K ck [x, y]) :
    ∃ a v1 v2 u1 u2, K = some a ∧ RexV w lo x (.int .i64 x.kind) v1 v2 ∧ w.cell? a = some (.int .i64 x.kind) ∧ w.cell? ⟨a.block, a.off + 1, none⟩ = some v1 ∧ w.cell? ⟨a.block, a.off + 2, none⟩ = some v2 ∧
      RexV w lo y (.int .i64 y.kind) u1 u2 ∧ w.cell? ⟨a.block, a.off + 3, none⟩ = some (.int .i64 y.kind) ∧ w.cell? ⟨a.block, a.off + 3 + 1, none⟩ = some u1 ∧ w.cell? ⟨a.block, a.off + 3 + 2, none⟩ = some u2 := by
  obtain ⟨a, r, v1, v2, e, HX, _, HV, c0, c1, c2⟩ := h.at_ 0 (by simp)
  obtain ⟨a', r', u1, u2, e', HX', _, HV', c0', c1', c2'⟩ := h.at_ 1 (by simp)
  obtain rfl : x = r := by simpa using HX.out
  obtain rfl : y = r' := by simpa using HX'.out
  obtain rfl : a = a' := by rw [e] at e'; exact Option.some.inj e'
  rw [show a.add (0 * 3) = a by simp [Addr.add]] at c0 c1 c2
  rw [show a.add (1 * 3) = ⟨a.block, a.off + 3, none⟩ by simp [Addr.add]] at c0' c1' c2'
  exact ⟨a, v1, v2, u1, u2, e, HV.out, c0, c1, c2, HV'.out, c0', c1', c2'⟩

def iNullOk (r : Rex) : Prop := ∀ (d : Nat) (v1 v2 : Value) (w : World) (lo : Nat), formed d r = true → RexV w lo r (.int .i64 r.kind) v1 v2 →
  Calls Try.prog 62 #[.agg #[.int .i64 r.kind, v1, v2]] w fun e w' => e = .returned (.bool (null r)) ∧ Below w.heap.size w w'
set_option maxHeartbeats 2000000 in
theorem iNull_c (r : Rex) : iNullOk r := by
  refine Rex.ind (p := iNullOk) (fun k s ks ih => ?_) r
  intro d v1 v2 w lo hd h
  obtain ⟨A, c, K, ck, _, rfl, rfl, hs, hk⟩ := h.parts
  dsimp only [Rex.kind, Rex.set, Rex.kids] at hs hk ⊢
  clear h
  rcases formed_shape hd with ⟨e, rfl⟩ | ⟨e, a, rfl, ha⟩ | ⟨e, a, b, rfl, ha, hb⟩
  · clear hd
    simp only [List.length_nil]
    rcases e with rfl | rfl
    · go_enter Try.func62, Try.ntmps62
      go_wp2
      go_ret
      exact ⟨rfl, below_alloc (Below.refl _ _) _⟩
    · go_enter Try.func62, Try.ntmps62
      go_wp2
      go_ret
      exact ⟨rfl, below_alloc (Below.refl _ _) _⟩
  · clear hd
    simp only [List.length_cons, List.length_nil, Nat.zero_add]
    rcases e with rfl | rfl
    · go_enter Try.func62, Try.ntmps62
      go_wp2
      go_ret
      exact ⟨rfl, below_alloc (Below.refl _ _) _⟩
    · obtain ⟨wa, hwa⟩ : ∃ x, x = w.alloc (.cells #[.int .i64 7, .slice A s.length c, .slice K 1 ck] 34) := ⟨_, rfl⟩
      have hb : Below w.heap.size w wa := by rw [hwa]; exact below_alloc (Below.refl _ _) _
      have m0 : Blk wa w.heap.size #[.int .i64 7, .slice A s.length c, .slice K 1 ck] 34 := by rw [hwa]; exact blk_new w _ _
      have HS := Lib.hid (hs.below hb)
      have HK := Lib.hid (hk.below hb)
      have HB := Lib.hid hb
      have M0 := Lib.hid m0
      clear hb m0 hs hk
      replace hwa := hwa.symm
      have N0 : ∀ x : BW wa, x.w1.cell? ⟨w.heap.size, 0, none⟩ = some (.int .i64 7) := fun x => by rw [(M0.out.below x.up).cell]; rfl
      have N1 : ∀ x : BW wa, x.w1.cell? ⟨w.heap.size, 1, none⟩ = some (.slice A s.length c) := fun x => by rw [(M0.out.below x.up).cell]; rfl
      have N2 : ∀ x : BW wa, x.w1.cell? ⟨w.heap.size, 2, none⟩ = some (.slice K 1 ck) := fun x => by rw [(M0.out.below x.up).cell]; rfl
      have n0 := N0 ⟨wa, Below.refl _ _⟩
      have n1 := N1 ⟨wa, Below.refl _ _⟩
      have n2 := N2 ⟨wa, Below.refl _ _⟩
      dsimp only at n0 n1 n2
      clear N0 N1 N2
      obtain ⟨a', x1, x2, rfl, hv, c0, c1, c2⟩ := HK.out.one
      have HV := Lib.hid hv
      clear hv
      go_enter Try.func62, Try.ntmps62
      go_wp2_with fail
      clear hwa
      refine (ih a (by simp) _ _ _ _ _ ha HV.out).mono ?_
      rintro e w1 ⟨rfl, b1⟩
      clear n0 n1 n2 c0 c1 c2
      go_wp2
      go_ret
      exact ⟨ret_bool (by simp [null, nullAt]), below_then HB.out b1⟩
  · clear hd
    simp only [List.length_cons, List.length_nil, Nat.zero_add, Nat.reduceAdd]
    rcases e with rfl | rfl | rfl
    · obtain ⟨wa, hwa⟩ : ∃ x, x = w.alloc (.cells #[.int .i64 3, .slice A s.length c, .slice K 2 ck] 34) := ⟨_, rfl⟩
      have hb : Below w.heap.size w wa := by rw [hwa]; exact below_alloc (Below.refl _ _) _
      have m0 : Blk wa w.heap.size #[.int .i64 3, .slice A s.length c, .slice K 2 ck] 34 := by rw [hwa]; exact blk_new w _ _
      have HS := Lib.hid (hs.below hb)
      have HK := Lib.hid (hk.below hb)
      have HB := Lib.hid hb
      have M0 := Lib.hid m0
      clear hb m0 hs hk
      replace hwa := hwa.symm
      have N0 : ∀ x : BW wa, x.w1.cell? ⟨w.heap.size, 0, none⟩ = some (.int .i64 3) := fun x => by rw [(M0.out.below x.up).cell]; rfl
      have N1 : ∀ x : BW wa, x.w1.cell? ⟨w.heap.size, 1, none⟩ = some (.slice A s.length c) := fun x => by rw [(M0.out.below x.up).cell]; rfl
      have N2 : ∀ x : BW wa, x.w1.cell? ⟨w.heap.size, 2, none⟩ = some (.slice K 2 ck) := fun x => by rw [(M0.out.below x.up).cell]; rfl
      have n0 := N0 ⟨wa, Below.refl _ _⟩
      have n1 := N1 ⟨wa, Below.refl _ _⟩
      have n2 := N2 ⟨wa, Below.refl _ _⟩
      dsimp only at n0 n1 n2
      clear N0 N1 N2
      obtain ⟨a', x1, x2, y1, y2, rfl, hv, c0, c1, c2, hv', d0, d1, d2⟩ := HK.out.two
      have HV := Lib.hid hv
      have HV' := Lib.hid hv'
      clear hv hv'
      have C3 : ∀ w' : World, Below wa.heap.size wa w' → w'.cell? ⟨a'.block, a'.off + 3, none⟩ = some (.int .i64 b.kind) ∧ w'.cell? ⟨a'.block, a'.off + 3 + 1, none⟩ = some y1 ∧ w'.cell? ⟨a'.block, a'.off + 3 + 2, none⟩ = some y2 := fun w' hb =>
        ⟨(BW.cell ⟨w', hb⟩ d0 :), (BW.cell ⟨w', hb⟩ d1 :), (BW.cell ⟨w', hb⟩ d2 :)⟩
      have HC := Lib.hid C3
      clear C3
      go_enter Try.func62, Try.ntmps62
      go_wp2_with fail
      clear hwa
      refine (ih a (by simp) _ _ _ _ _ ha HV.out).mono ?_
      rintro e w1 ⟨rfl, b1⟩
      have H1 := Lib.hid b1
      obtain ⟨z0, z1, z2⟩ := HC.out w1 b1
      clear n0 n1 n2 c0 c1 c2 d0 d1 d2
      have n2 : w1.cell? ⟨w.heap.size, 2, none⟩ = some (.slice (some a') 2 ck) := by rw [(M0.out.below b1).cell]; rfl
      clear b1
      by_cases hn : null a = true
      · have HN := Lib.hid hn
        rw [hn]
        clear hn
        go_wp2_with fail
        refine (ih b (by simp) _ _ _ _ _ hb (HV'.out.under H1.out)).mono ?_
        rintro e w2 ⟨rfl, b2⟩
        clear n2 z0 z1 z2
        go_wp2
        go_ret
        exact ⟨ret_bool (by simp [null, nullAt, HN.out]), below_then HB.out (below_then H1.out b2)⟩
      · have HN : Hid (null a = !true) := by show _ = _; simpa using hn
        rw [HN.out]
        clear hn
        go_wp2
        go_ret
        exact ⟨ret_bool (by simp [null, nullAt, HN.out]), below_then HB.out H1.out⟩
    · obtain ⟨wa, hwa⟩ : ∃ x, x = w.alloc (.cells #[.int .i64 4, .slice A s.length c, .slice K 2 ck] 34) := ⟨_, rfl⟩
      have hb : Below w.heap.size w wa := by rw [hwa]; exact below_alloc (Below.refl _ _) _
      have m0 : Blk wa w.heap.size #[.int .i64 4, .slice A s.length c, .slice K 2 ck] 34 := by rw [hwa]; exact blk_new w _ _
      have HS := Lib.hid (hs.below hb)
      have HK := Lib.hid (hk.below hb)
      have HB := Lib.hid hb
      have M0 := Lib.hid m0
      clear hb m0 hs hk
      replace hwa := hwa.symm
      have N0 : ∀ x : BW wa, x.w1.cell? ⟨w.heap.size, 0, none⟩ = some (.int .i64 4) := fun x => by rw [(M0.out.below x.up).cell]; rfl
      have N1 : ∀ x : BW wa, x.w1.cell? ⟨w.heap.size, 1, none⟩ = some (.slice A s.length c) := fun x => by rw [(M0.out.below x.up).cell]; rfl
      have N2 : ∀ x : BW wa, x.w1.cell? ⟨w.heap.size, 2, none⟩ = some (.slice K 2 ck) := fun x => by rw [(M0.out.below x.up).cell]; rfl
      have n0 := N0 ⟨wa, Below.refl _ _⟩
      have n1 := N1 ⟨wa, Below.refl _ _⟩
      have n2 := N2 ⟨wa, Below.refl _ _⟩
      dsimp only at n0 n1 n2
      clear N0 N1 N2
      obtain ⟨a', x1, x2, y1, y2, rfl, hv, c0, c1, c2, hv', d0, d1, d2⟩ := HK.out.two
      have HV := Lib.hid hv
      have HV' := Lib.hid hv'
      clear hv hv'
      have C3 : ∀ w' : World, Below wa.heap.size wa w' → w'.cell? ⟨a'.block, a'.off + 3, none⟩ = some (.int .i64 b.kind) ∧ w'.cell? ⟨a'.block, a'.off + 3 + 1, none⟩ = some y1 ∧ w'.cell? ⟨a'.block, a'.off + 3 + 2, none⟩ = some y2 := fun w' hb =>
        ⟨(BW.cell ⟨w', hb⟩ d0 :), (BW.cell ⟨w', hb⟩ d1 :), (BW.cell ⟨w', hb⟩ d2 :)⟩
      have HC := Lib.hid C3
      clear C3
      go_enter Try.func62, Try.ntmps62
      go_wp2_with fail
      clear hwa
      refine (ih a (by simp) _ _ _ _ _ ha HV.out).mono ?_
      rintro e w1 ⟨rfl, b1⟩
      have H1 := Lib.hid b1
      obtain ⟨z0, z1, z2⟩ := HC.out w1 b1
      clear n0 n1 n2 c0 c1 c2 d0 d1 d2
      have n2 : w1.cell? ⟨w.heap.size, 2, none⟩ = some (.slice (some a') 2 ck) := by rw [(M0.out.below b1).cell]; rfl
      clear b1
      by_cases hn : null a = false
      · have HN := Lib.hid hn
        rw [hn]
        clear hn
        go_wp2_with fail
        refine (ih b (by simp) _ _ _ _ _ hb (HV'.out.under H1.out)).mono ?_
        rintro e w2 ⟨rfl, b2⟩
        clear n2 z0 z1 z2
        go_wp2
        go_ret
        exact ⟨ret_bool (by simp [null, nullAt, HN.out]), below_then HB.out (below_then H1.out b2)⟩
      · have HN : Hid (null a = !false) := by show _ = _; simpa using hn
        rw [HN.out]
        clear hn
        go_wp2
        go_ret
        exact ⟨ret_bool (by simp [null, nullAt, HN.out]), below_then HB.out H1.out⟩
    · obtain ⟨wa, hwa⟩ : ∃ x, x = w.alloc (.cells #[.int .i64 6, .slice A s.length c, .slice K 2 ck] 34) := ⟨_, rfl⟩
      have hb : Below w.heap.size w wa := by rw [hwa]; exact below_alloc (Below.refl _ _) _
      have m0 : Blk wa w.heap.size #[.int .i64 6, .slice A s.length c, .slice K 2 ck] 34 := by rw [hwa]; exact blk_new w _ _
      have HS := Lib.hid (hs.below hb)
      have HK := Lib.hid (hk.below hb)
      have HB := Lib.hid hb
      have M0 := Lib.hid m0
      clear hb m0 hs hk
      replace hwa := hwa.symm
      have N0 : ∀ x : BW wa, x.w1.cell? ⟨w.heap.size, 0, none⟩ = some (.int .i64 6) := fun x => by rw [(M0.out.below x.up).cell]; rfl
      have N1 : ∀ x : BW wa, x.w1.cell? ⟨w.heap.size, 1, none⟩ = some (.slice A s.length c) := fun x => by rw [(M0.out.below x.up).cell]; rfl
      have N2 : ∀ x : BW wa, x.w1.cell? ⟨w.heap.size, 2, none⟩ = some (.slice K 2 ck) := fun x => by rw [(M0.out.below x.up).cell]; rfl
      have n0 := N0 ⟨wa, Below.refl _ _⟩
      have n1 := N1 ⟨wa, Below.refl _ _⟩
      have n2 := N2 ⟨wa, Below.refl _ _⟩
      dsimp only at n0 n1 n2
      clear N0 N1 N2
      obtain ⟨a', x1, x2, y1, y2, rfl, hv, c0, c1, c2, hv', d0, d1, d2⟩ := HK.out.two
      have HV := Lib.hid hv
      have HV' := Lib.hid hv'
      clear hv hv'
      have C3 : ∀ w' : World, Below wa.heap.size wa w' → w'.cell? ⟨a'.block, a'.off + 3, none⟩ = some (.int .i64 b.kind) ∧ w'.cell? ⟨a'.block, a'.off + 3 + 1, none⟩ = some y1 ∧ w'.cell? ⟨a'.block, a'.off + 3 + 2, none⟩ = some y2 := fun w' hb =>
        ⟨(BW.cell ⟨w', hb⟩ d0 :), (BW.cell ⟨w', hb⟩ d1 :), (BW.cell ⟨w', hb⟩ d2 :)⟩
      have HC := Lib.hid C3
      clear C3
      go_enter Try.func62, Try.ntmps62
      go_wp2_with fail
      clear hwa
      refine (ih a (by simp) _ _ _ _ _ ha HV.out).mono ?_
      rintro e w1 ⟨rfl, b1⟩
      have H1 := Lib.hid b1
      obtain ⟨z0, z1, z2⟩ := HC.out w1 b1
      clear n0 n1 n2 c0 c1 c2 d0 d1 d2
      have n2 : w1.cell? ⟨w.heap.size, 2, none⟩ = some (.slice (some a') 2 ck) := by rw [(M0.out.below b1).cell]; rfl
      clear b1
      by_cases hn : null a = true
      · have HN := Lib.hid hn
        rw [hn]
        clear hn
        go_wp2_with fail
        refine (ih b (by simp) _ _ _ _ _ hb (HV'.out.under H1.out)).mono ?_
        rintro e w2 ⟨rfl, b2⟩
        clear n2 z0 z1 z2
        go_wp2
        go_ret
        exact ⟨ret_bool (by simp [null, nullAt, HN.out]), below_then HB.out (below_then H1.out b2)⟩
      · have HN : Hid (null a = !true) := by show _ = _; simpa using hn
        rw [HN.out]
        clear hn
        go_wp2
        go_ret
        exact ⟨ret_bool (by simp [null, nullAt, HN.out]), below_then HB.out H1.out⟩
end Go.Proofs.Ytplhbjpkkhhilaa

/- l3Cat, l3Star: of what their parts are like. -/
namespace Go.Proofs.Ytplhbjpkkhhilaa
set_option linter.unusedSimpArgs false
set_option linter.unusedVariables false
open Go.RowKit

def LangOk (r : Rex) : Prop := ∀ (d : Nat) (t : ByteArray) (v1 v2 : Value) (w : World) (lo : Nat), formed d r = true → t.size ≤ 1000 → RexV w lo r (.int .i64 r.kind) v1 v2 →
  Calls Try.prog 61 #[.agg #[.int .i64 r.kind, v1, v2], .string t] w fun e w' => e = .returned (.bool (lang r t.data.toList)) ∧ Below w.heap.size w w'
theorem ext_take (t : ByteArray) (k : Nat) : (t.extract 0 k).data.toList = t.data.toList.take k := by rw [Go.Lib.extract_data]; simp
theorem ext_drop (t : ByteArray) (k : Nat) : (t.extract k t.size).data.toList = t.data.toList.drop k := Go.Lib.extract_to_end t k
theorem ext_size (t : ByteArray) (a b : Nat) : (t.extract a b).size ≤ t.size := by rw [ByteArray.size_extract]; omega
theorem tl_len (t : ByteArray) : t.data.toList.length = t.size := by rw [Array.length_toList]; rfl

theorem LangOk.bw {r : Rex} (h : LangOk r) {W : World} {x : BW W} {d : Nat} {t : ByteArray} {v1 v2 : Value} {lo : Nat} {g : Bool} (hf : formed d r = true) (ht : t.size ≤ 1000) (hv : RexV x.w1 lo r (.int .i64 r.kind) v1 v2) (hg : lang r t.data.toList = g) :
    Calls Try.prog 61 #[.agg #[.int .i64 r.kind, v1, v2], .string t] x.w1 fun e w'' => e = .returned (.bool g) ∧ ∃ y : BW W, w'' = y.w1 := Calls.bw (bv hg) (h d t v1 v2 _ lo hf ht hv)
set_option maxRecDepth 100000 in
set_option maxHeartbeats 4000000 in
theorem l3Cat_of (a b : Rex) (iha : LangOk a) (ihb : LangOk b) (d : Nat) (t : ByteArray) (v1 v2 u1 u2 : Value) (w : World) (lo : Nat) (hfa : formed d a = true) (hfb : formed d b = true) (ht : t.size ≤ 1000) (h : RexV w lo a (.int .i64 a.kind) v1 v2) (h' : RexV w lo b (.int .i64 b.kind) u1 u2) :
    Calls Try.prog 82 #[.agg #[.int .i64 a.kind, v1, v2], .agg #[.int .i64 b.kind, u1, u2], .string t] w fun e w' => e = .returned (.bool (catB (lang a) (lang b) t.data.toList)) ∧ Below w.heap.size w w' := by
  obtain ⟨A1, c1, K1, k1, _, rfl, rfl, _, _⟩ := h.parts
  obtain ⟨A2, c2, K2, k2, _, rfl, rfl, _, _⟩ := h'.parts
  obtain ⟨wa, hwa⟩ : ∃ x, x = (w.alloc (.cells #[.int .i64 a.kind, .slice A1 a.set.length c1, .slice K1 a.kids.length k1] 34)).alloc (.cells #[.int .i64 b.kind, .slice A2 b.set.length c2, .slice K2 b.kids.length k2] 34) := ⟨_, rfl⟩
  have hb : Below w.heap.size w wa := by rw [hwa]; exact below_alloc (below_alloc (Below.refl _ _) _) _
  have m0 : Blk wa w.heap.size #[.int .i64 a.kind, .slice A1 a.set.length c1, .slice K1 a.kids.length k1] 34 := by rw [hwa]; exact (blk_new w _ _).alloc _
  have m1 : Blk wa (w.heap.size + 1) #[.int .i64 b.kind, .slice A2 b.set.length c2, .slice K2 b.kids.length k2] 34 := by
    rw [hwa]
    have := blk_new (w.alloc (.cells #[.int .i64 a.kind, .slice A1 a.set.length c1, .slice K1 a.kids.length k1] 34)) #[.int .i64 b.kind, .slice A2 b.set.length c2, .slice K2 b.kids.length k2] 34
    simpa using this
  replace hwa := hwa.symm
  have HB := Lib.hid hb
  have M0 := Lib.hid m0
  have M1 := Lib.hid m1
  have HA := Lib.hid (h.under hb)
  have HB' := Lib.hid (h'.under hb)
  have HFA := Lib.hid hfa
  have HFB := Lib.hid hfb
  have HT := Lib.hid (tl_len t)
  clear hb m0 m1 h h' hfa hfb
  go_enter Try.func82, Try.ntmps82
  go_wp2
  clear hwa
  go_loopg [7] (t.size + 1) (fun n i wr => ∃ k : Nat, k + n = t.size + 1 ∧ i = .int .i64 k ∧ Hid (catGo (lang a) (lang b) t.data.toList n k = catB (lang a) (lang b) t.data.toList) ∧ Hid (Below wa.heap.size wa wr))
  case atStart => exact ⟨0, by omega, rfl, by show _ = _; rw [catB, HT.out], Below.refl _ _⟩
  case round =>
    obtain ⟨k, hk, rfl, HC, HW⟩ := hrel
    by_cases hlt : k ≤ t.size
    · obtain ⟨m, rfl⟩ : ∃ m, gk = m + 1 := ⟨gk - 1, by omega⟩
      have N0 : ∀ x : BW wr, x.w1.cell? ⟨w.heap.size, 0, none⟩ = some (.int .i64 a.kind) := fun x => by rw [(M0.out.below (below_then HW.out x.up)).cell]; rfl
      have N1 : ∀ x : BW wr, x.w1.cell? ⟨w.heap.size, 1, none⟩ = some (.slice A1 a.set.length c1) := fun x => by rw [(M0.out.below (below_then HW.out x.up)).cell]; rfl
      have N2 : ∀ x : BW wr, x.w1.cell? ⟨w.heap.size, 2, none⟩ = some (.slice K1 a.kids.length k1) := fun x => by rw [(M0.out.below (below_then HW.out x.up)).cell]; rfl
      have P0 : ∀ x : BW wr, x.w1.cell? ⟨w.heap.size + 1, 0, none⟩ = some (.int .i64 b.kind) := fun x => by rw [(M1.out.below (below_then HW.out x.up)).cell]; rfl
      have P1 : ∀ x : BW wr, x.w1.cell? ⟨w.heap.size + 1, 1, none⟩ = some (.slice A2 b.set.length c2) := fun x => by rw [(M1.out.below (below_then HW.out x.up)).cell]; rfl
      have P2 : ∀ x : BW wr, x.w1.cell? ⟨w.heap.size + 1, 2, none⟩ = some (.slice K2 b.kids.length k2) := fun x => by rw [(M1.out.below (below_then HW.out x.up)).cell]; rfl
      have RA : Hid (∀ x : BW wr, RexV x.w1 lo a (.int .i64 a.kind) (.slice A1 a.set.length c1) (.slice K1 a.kids.length k1)) := fun x => HA.out.under (below_then HW.out x.up)
      have RB : Hid (∀ x : BW wr, RexV x.w1 lo b (.int .i64 b.kind) (.slice A2 b.set.length c2) (.slice K2 b.kids.length k2)) := fun x => HB'.out.under (below_then HW.out x.up)
      have i0 : (0 : Int) ≤ (k : Int) := by omega
      have i1 : (k : Int) ≤ (t.size : Int) := by omega
      have ET := Lib.hid (ext_take t k)
      have ED := Lib.hid (ext_drop t k)
      have ES1 := ext_size t 0 k
      have ES2 := ext_size t k t.size
      by_cases ga : lang a (t.data.toList.take k) = true
      · have GA : Hid (lang a (t.extract 0 k).data.toList = true) := by show _ = _; rw [ET.out]; exact ga
        have GA' := Lib.hid ga
        clear ga
        by_cases gb : lang b (t.data.toList.drop k) = true
        · have GB : Hid (lang b (t.extract k t.size).data.toList = true) := by show _ = _; rw [ED.out]; exact gb
          have GB' := Lib.hid gb
          clear gb
          go_wp2
          refine wp_region_bw (by kernel_rfl) (by kernel_rfl) ?_
          repeat (go_big_quiet_step ((first | (go_at_call 61; with_reducible exact iha.bw HFA.out (by omega) (RA.out _) GA.out) | (go_at_call 61; with_reducible exact ihb.bw HFB.out (by omega) (RB.out _) GB.out))))
          refine wpQuiet_nil ?_
          rintro w1 ⟨x1, y1⟩
          have b1 : Below wr.heap.size wr w1 := y1 ▸ x1.up
          clear y1 x1 N0 N1 N2 P0 P1 P2 ES1 ES2 i0 i1
          go_wp2
          go_ret
          exact ⟨ret_bool (by rw [← HC.out, catGo, GA'.out, GB'.out]; rfl), below_then HB.out (below_then HW.out b1)⟩
        · have gb' : lang b (t.data.toList.drop k) = false := by simpa using gb
          have GB : Hid (lang b (t.extract k t.size).data.toList = false) := by show _ = _; rw [ED.out]; exact gb'
          have GB' := Lib.hid gb'
          clear gb gb'
          go_wp2
          refine wp_region_bw (by kernel_rfl) (by kernel_rfl) ?_
          repeat (go_big_quiet_step ((first | (go_at_call 61; with_reducible exact iha.bw HFA.out (by omega) (RA.out _) GA.out) | (go_at_call 61; with_reducible exact ihb.bw HFB.out (by omega) (RB.out _) GB.out))))
          refine wpQuiet_nil ?_
          rintro w1 ⟨x1, y1⟩
          have b1 : Below wr.heap.size wr w1 := y1 ▸ x1.up
          clear y1 x1 N0 N1 N2 P0 P1 P2 ES1 ES2 i0 i1
          go_wp2
          go_roundg m
          case rel => exact ⟨k + 1, by omega, by go_num, by have := HC.out; rw [catGo, GA'.out, GB'.out] at this; exact this, below_then HW.out b1⟩
          case measure => omega
      · have ga' : lang a (t.data.toList.take k) = false := by simpa using ga
        have GA : Hid (lang a (t.extract 0 k).data.toList = false) := by show _ = _; rw [ET.out]; exact ga'
        have GA' := Lib.hid ga'
        have GB : Hid (lang b (t.extract k t.size).data.toList = lang b (t.extract k t.size).data.toList) := rfl
        clear ga ga'
        go_wp2
        refine wp_region_bw (by kernel_rfl) (by kernel_rfl) ?_
        repeat (go_big_quiet_step ((first | (go_at_call 61; with_reducible exact iha.bw HFA.out (by omega) (RA.out _) GA.out) | (go_at_call 61; with_reducible exact ihb.bw HFB.out (by omega) (RB.out _) GB.out))))
        refine wpQuiet_nil ?_
        rintro w1 ⟨x1, y1⟩
        have b1 : Below wr.heap.size wr w1 := y1 ▸ x1.up
        clear y1 x1 N0 N1 N2 P0 P1 P2 ES1 ES2 i0 i1
        go_wp2
        go_roundg m
        case rel => exact ⟨k + 1, by omega, by go_num, by have := HC.out; rw [catGo, GA'.out] at this; exact this, below_then HW.out b1⟩
        case measure => omega
    · go_wp2
      go_ret
      obtain rfl : gk = 0 := by omega
      exact ⟨ret_bool (by rw [← HC.out]; rfl), below_then HB.out HW.out⟩

end Go.Proofs.Ytplhbjpkkhhilaa

/- toSpanS, markSpanS, heldSpanS. -/
namespace Go.Proofs.Ytplhbjpkkhhilaa
set_option linter.unusedSimpArgs false
set_option linter.unusedVariables false
open Go.RowKit

theorem OwnSp.slice {w : World} {base : Nat} {v : Value} {xs : List Sp} (h : OwnSp w base v xs) : ∃ A c, v = .slice A xs.length c := by
  obtain ⟨A, c, e, _⟩ := h.sps
  exact ⟨A, c, e⟩
theorem OwnSp.head {w : World} {base c : Nat} {A : Option Addr} {xs : List Sp} (h : OwnSp w base (.slice A xs.length c) xs) (hn : 0 < xs.length) : ∃ g, A = some ⟨g, 0, none⟩ ∧ base ≤ g := by
  obtain ⟨g, cap, e, hg, _⟩ := own_form h.own hn
  injection e with e1 e2 e3
  exact ⟨g, e1, hg⟩

/-- what is written: the row's own block alone -/
theorem grown_refl (w : World) (row : Option Nat) : w.grownBy w row := ⟨rfl, rfl, rfl, Nat.le_refl _, fun _ _ _ => rfl⟩
theorem grown_set {w w1 : World} {g : Nat} (h : w.grownBy w1 (some g)) (o : Nat) (u : Value) : w.grownBy (w1.setCell ⟨g, o, none⟩ u) (some g) :=
  ⟨h.os, h.tape, h.output, by rw [World.size_setCell]; exact h.size, fun k hk hne => (Below.heap_setCell w1 ⟨g, o, none⟩ u k (fun e => hne (by rw [e]))).trans (h.block k hk hne)⟩

end Go.Proofs.Ytplhbjpkkhhilaa

/- l3Star: any number of pieces that are like a tree. -/
namespace Go.Proofs.Ytplhbjpkkhhilaa
set_option linter.unusedSimpArgs false
set_option linter.unusedVariables false
open Go.RowKit

abbrev TBo : Nat := 4
theorem infoBo : (Try.prog.info? TBo).map (fun i => (i.zero, i.size, i.bytes)) = some (some (.bool false), 1, 1) := by kernel_rfl
def bcells (f : Nat → Bool) (n : Nat) : List Value := (List.range n).map fun i => .bool (f i)
theorem bcells_length (f : Nat → Bool) (n : Nat) : (bcells f n).length = n := by simp [bcells]
theorem bcells_get (f : Nat → Bool) {n i : Nat} (h : i < n) : (bcells f n)[i]? = some (.bool (f i)) := by simp [bcells, h]
theorem bcells_set (f : Nat → Bool) (n k : Nat) (b : Bool) : (bcells f n).set k (.bool b) = bcells (fun i => if i = k then b else f i) n := by
  apply List.ext_getElem?
  intro j
  rw [List.getElem?_set]
  by_cases hj : j < n
  · rw [bcells_get _ hj, bcells_get _ hj, bcells_length]
    by_cases e : k = j
    · subst e; simp [hj]
    · rw [if_neg e, if_neg (Ne.symm e)]
  · rw [List.getElem?_eq_none (by rw [bcells_length]; omega), List.getElem?_eq_none (by rw [bcells_length]; omega), bcells_length]
    split
    · rw [if_neg (by omega)]
    · rfl
structure BRow (w : World) (g n : Nat) (f : Nat → Bool) : Prop where
  blk : Blk w g (bcells f n).toArray TBo
theorem BRow.below {w w' : World} {g n : Nat} {f : Nat → Bool} (h : BRow w g n f) (hb : Below w.heap.size w w') : BRow w' g n f := ⟨h.blk.below hb⟩
theorem BRow.cell {w : World} {g n : Nat} {f : Nat → Bool} (h : BRow w g n f) {i : Nat} (hi : i < n) : w.cell? ⟨g, i, none⟩ = some (.bool (f i)) := by
  rw [h.blk.cell]; simpa using bcells_get f hi
theorem BRow.free {w : World} {g n : Nat} {f : Nat → Bool} (h : BRow w g n f) (i : Nat) : w.frozen? ⟨g, i, none⟩ = false := h.blk.free i
theorem BRow.set {w : World} {g n : Nat} {f : Nat → Bool} (h : BRow w g n f) (k : Nat) (b : Bool) : BRow (w.setCell ⟨g, k, none⟩ (.bool b)) g n (fun i => if i = k then b else f i) := by
  have := h.blk.set k (.bool b)
  rw [List.setIfInBounds_toArray, bcells_set] at this
  exact ⟨this⟩
theorem brow_made {w : World} {base g n : Nat} (h : w.ownsRow base TBo 1 (.slice (some ⟨g, 0, none⟩) n n) n (madeCells (Value.bool false).cells (n * 1)).toList) : BRow w g n fun _ => false := by
  obtain ⟨cur, hb, hs, _, _, _, ht⟩ := own_blk h
  have e : cur = (bcells (fun _ => false) n).toArray := by
    apply Array.toList_inj.1
    rw [List.take_of_length_le (by rw [Array.length_toList, hs]; exact Nat.le_refl _)] at ht
    rw [ht]
    apply List.ext_getElem?
    intro j
    by_cases hj : j < n
    · show _ = (bcells (fun _ => false) n)[j]?
      rw [bcells_get _ hj]
      simp [madeCells, Value.cells, hj, Nat.mod_one]
    · rw [List.getElem?_eq_none (by simp [madeCells]; omega), List.getElem?_eq_none (by simp [bcells_length]; omega)]
  exact ⟨e ▸ hb⟩

theorem ext_mid (t : ByteArray) (i k : Nat) : (t.extract i k).data.toList = (t.data.toList.take k).drop i := by rw [Go.Lib.extract_data, List.drop_take]
theorem star_row {L : Txt → Bool} {t : Txt} {k : Nat} (hk : k ≤ t.length) : starB L (t.take k) = (decide (k = 0) || (List.range k).any fun i => starB L (t.take i) && L ((t.take k).drop i)) := by
  rw [starB_last]
  have e : (t.take k).length = k := by rw [List.length_take]; omega
  rw [e]
  congr 1
  · cases k with
    | zero => simp
    | succ k => cases t with
      | nil => simp at hk
      | cons x xs => rfl
  · rw [Bool.eq_iff_iff, List.any_eq_true, List.any_eq_true]
    refine exists_congr fun i => and_congr_right fun hi => ?_
    rw [List.take_take, Nat.min_eq_left (by simp at hi; omega)]

set_option maxRecDepth 100000 in
set_option maxHeartbeats 8000000 in
theorem l3Star_of (a : Rex) (iha : LangOk a) (d : Nat) (t : ByteArray) (v1 v2 : Value) (w : World) (lo : Nat) (hfa : formed d a = true) (ht : t.size ≤ 1000) (h : RexV w lo a (.int .i64 a.kind) v1 v2) :
    Calls Try.prog 83 #[.agg #[.int .i64 a.kind, v1, v2], .string t] w fun e w' => e = .returned (.bool (starB (lang a) t.data.toList)) ∧ Below w.heap.size w w' := by
  obtain ⟨A, c, K, ck', _, rfl, rfl, _, _⟩ := h.parts
  obtain ⟨wa, hwa⟩ : ∃ x, x = w.alloc (.cells #[.int .i64 a.kind, .slice A a.set.length c, .slice K a.kids.length ck'] 34) := ⟨_, rfl⟩
  have hb : Below w.heap.size w wa := by rw [hwa]; exact below_alloc (Below.refl _ _) _
  have m0 : Blk wa w.heap.size #[.int .i64 a.kind, .slice A a.set.length c, .slice K a.kids.length ck'] 34 := by rw [hwa]; exact blk_new _ _ _
  replace hwa := hwa.symm
  have HB := Lib.hid hb
  have M0 := Lib.hid m0
  have HA := Lib.hid (h.under hb)
  have HFA := Lib.hid hfa
  have HT := Lib.hid (tl_len t)
  clear hb m0 h hfa
  obtain ⟨i0, hi, hz0, hz1, hz2⟩ := info_parts infoBo
  go_enter Try.func83, Try.ntmps83
  go_upto_region 1 with fail
  clear hwa
  go_wp2_with (at_make; refine wpList_make_full _ rfl _ _ 79 rfl wa.heap.size TBo i0 (.bool false) 1 Try.underlying79 hi hz0 hz1 .i64 .i64 _ _ (t.size + 1) rfl rfl (by go_num) (by go_num) (by rw [hz2]; omega) (by unfold maxLen; omega) (Nat.le_refl _) ?_; intro w1 hown hgrow; have hR := brow_made hown; have c0 := hR.cell (i := 0) (by omega); have f0 := hR.free 0; have HR := Lib.hid hR; have B1 : Hid (Below wa.heap.size wa w1) := (Below.refl _ wa).grown hgrow (Nat.le_refl _) (fun k hk => by cases hk); clear hown hgrow hR)
  obtain ⟨g, hg⟩ : ∃ g, g = wa.heap.size := ⟨_, rfl⟩
  rw [← hg] at HR ⊢
  have hgl : wa.heap.size ≤ g := by rw [hg]; exact Nat.le_refl _
  have HG0 : Hid (w.heap.size < g) := by have := M0.out.lt; rw [hg]; exact this
  have HR0 := Lib.hid (HR.out.set 0 true)
  have B2 := Lib.hid (below_set B1.out (p := ⟨g, 0, none⟩) hgl (.bool true))
  clear c0 f0 hg hi hz0 hz1 hz2
  clear HR B1
  go_loopg [6] (t.size) (fun n x wr => ∃ k : Nat, k + n = t.size + 1 ∧ x = .int .i64 k ∧ 1 ≤ k ∧ ∃ f : Nat → Bool, Hid (BRow wr g (t.size + 1) f) ∧ Hid (∀ j, j < k → f j = starB (lang a) (t.data.toList.take j)) ∧ Hid (∀ j, k ≤ j → j ≤ t.size → f j = false) ∧ Hid (Below wa.heap.size wa wr))
  case atStart =>
    refine ⟨1, by omega, rfl, Nat.le_refl _, _, HR0, fun j hj => ?_, fun j h1 h2 => ?_, B2⟩
    · obtain rfl : j = 0 := by omega
      rw [if_pos rfl, List.take_zero]
      rfl
    · rw [if_neg (by omega)]
  case round =>
    clear HR0 B2
    obtain ⟨k, hk, rfl, hk1, f0, HR, HF0, HZ0, HW⟩ := hrel
    by_cases hlt : k ≤ t.size
    · obtain ⟨m, rfl⟩ : ∃ m, gk = m + 1 := ⟨gk - 1, by omega⟩
      obtain ⟨wo, rfl⟩ : ∃ wo : World, wo = wr := ⟨_, rfl⟩
      have HSR : Hid (starB (lang a) (t.data.toList.take k) = (List.range k).any fun i => starB (lang a) (t.data.toList.take i) && lang a ((t.data.toList.take k).drop i)) := by
        show _ = _
        rw [star_row (by rw [HT.out]; exact hlt), decide_eq_false (by omega), Bool.false_or]
      go_wp2
      go_loopg [7] (k) (fun n x wr => ∃ i : Nat, i + n = k ∧ x = .int .i64 i ∧ ∃ f : Nat → Bool, Hid (BRow wr g (t.size + 1) f) ∧ Hid (∀ j, j < k → f j = starB (lang a) (t.data.toList.take j)) ∧ Hid (f k = (List.range i).any fun i => starB (lang a) (t.data.toList.take i) && lang a ((t.data.toList.take k).drop i)) ∧ Hid (∀ j, k < j → j ≤ t.size → f j = false) ∧ Hid (Below wa.heap.size wa wr))
      case atStart => exact ⟨0, by omega, rfl, f0, HR, HF0, by show _ = _; rw [HZ0.out k (Nat.le_refl _) hlt]; simp, fun j h1 h2 => HZ0.out j (by omega) h2, HW⟩
      case round =>
        clear HR HF0 HZ0 HW
        obtain ⟨i, hi, rfl, f, HR, HF, HK, HZ, HW⟩ := hrel
        have ck := HR.out.cell (i := k) (by omega)
        have fk := HR.out.free k
        have i0 : (0 : Int) ≤ (i : Int) := by omega
        have i1 : (k : Int) ≤ (t.size : Int) := by omega
        have i2 : (0 : Int) ≤ (k : Int) := by omega
        by_cases hik : i < k
        · have hti : decide ((i : Int) < (k : Int)) = true := decide_eq_true (by omega)
          have hti' : decide (i < k) = true := decide_eq_true hik
          by_cases hfk : f k = true
          · rw [hfk] at ck
            have HKF := Lib.hid hfk
            clear hfk
            go_wp2
            go_roundg m
            case rel =>
              refine ⟨k + 1, by omega, by go_num, by omega, f, HR, fun j hj => ?_, fun j h1 h2 => HZ.out j (by omega) h2, HW⟩
              by_cases e : j = k
              · subst e
                rw [HKF.out, HSR.out]
                have h1 := HK.out
                rw [HKF.out] at h1
                have h2 := List.any_eq_true.1 h1.symm
                obtain ⟨x, hx, hy⟩ := h2
                exact (List.any_eq_true.2 ⟨x, by simp at hx ⊢; omega, hy⟩).symm
              · exact HF.out j (by omega)
            case measure => omega
          · have HKF : Hid (f k = false) := by show _ = _; simpa using hfk
            rw [HKF.out] at ck
            have ci := HR.out.cell (i := i) (by omega)
            have n0 : wr.cell? ⟨w.heap.size, 0, none⟩ = some (.int .i64 a.kind) := by rw [(M0.out.below HW.out).cell]; rfl
            have n1 : wr.cell? ⟨w.heap.size, 1, none⟩ = some (.slice A a.set.length c) := by rw [(M0.out.below HW.out).cell]; rfl
            have n2 : wr.cell? ⟨w.heap.size, 2, none⟩ = some (.slice K a.kids.length ck') := by rw [(M0.out.below HW.out).cell]; rfl
            have i3 : (i : Int) ≤ (k : Int) := by omega
            have i4 : (i : Int) < (t.size : Int) + 1 := by omega
            have i5 : (k : Int) < (t.size : Int) + 1 := by omega
            have ES := ext_size t i k
            have EM := Lib.hid (ext_mid t i k)
            clear hfk
            by_cases hfi : f i = true
            · rw [hfi] at ci
              have HFI := Lib.hid hfi
              have HSI := Lib.hid ((HF.out i hik).symm.trans hfi)
              clear hfi
              obtain ⟨bb, hbb⟩ : ∃ bb, bb = lang a ((t.data.toList.take k).drop i) := ⟨_, rfl⟩
              have GA : Hid (lang a (t.extract i k).data.toList = bb) := by show _ = _; rw [EM.out, hbb]
              have HBB := Lib.hid hbb
              clear hbb
              go_wp2
              have HS : Hid (∀ w', Below wr.heap.size wr w' → w'.cell? ⟨g, i, none⟩ = some (.bool true) ∧ w'.cell? ⟨w.heap.size, 0, none⟩ = some (.int .i64 a.kind) ∧ w'.cell? ⟨w.heap.size, 1, none⟩ = some (.slice A a.set.length c) ∧ w'.cell? ⟨w.heap.size, 2, none⟩ = some (.slice K a.kids.length ck')) := fun w' hb =>
                ⟨by rw [(HR.out.below hb).cell (by omega), HFI.out], by rw [(M0.out.below (below_then HW.out hb)).cell]; rfl, by rw [(M0.out.below (below_then HW.out hb)).cell]; rfl, by rw [(M0.out.below (below_then HW.out hb)).cell]; rfl⟩
              have HS2 : Hid (∀ w' b, Below wr.heap.size wr w' → (w'.setCell ⟨g, k, none⟩ (.bool b)).cell? ⟨g, i, none⟩ = some (.bool true) ∧ (w'.setCell ⟨g, k, none⟩ (.bool b)).cell? ⟨w.heap.size, 0, none⟩ = some (.int .i64 a.kind) ∧ (w'.setCell ⟨g, k, none⟩ (.bool b)).cell? ⟨w.heap.size, 1, none⟩ = some (.slice A a.set.length c) ∧ (w'.setCell ⟨g, k, none⟩ (.bool b)).cell? ⟨w.heap.size, 2, none⟩ = some (.slice K a.kids.length ck')) := fun w' b hb =>
                ⟨by rw [((HR.out.below hb).set k b).cell (by omega)]; simp [show i ≠ k by omega, HFI.out], by rw [((M0.out.below (below_then HW.out hb)).far (by show w.heap.size ≠ g; have := HG0.out; omega) _).cell]; rfl, by rw [((M0.out.below (below_then HW.out hb)).far (by show w.heap.size ≠ g; have := HG0.out; omega) _).cell]; rfl, by rw [((M0.out.below (below_then HW.out hb)).far (by show w.heap.size ≠ g; have := HG0.out; omega) _).cell]; rfl⟩
              go_region_held3 (fun w' => w'.cell? ⟨g, i, none⟩ = some (.bool true) ∧ w'.cell? ⟨w.heap.size, 0, none⟩ = some (.int .i64 a.kind) ∧ w'.cell? ⟨w.heap.size, 1, none⟩ = some (.slice A a.set.length c) ∧ w'.cell? ⟨w.heap.size, 2, none⟩ = some (.slice K a.kids.length ck'))
                (first | exact HS.out _ (Below.refl _ _) | exact HS.out _ (below_drew (Below.refl _ _)) | exact HS.out _ BD.out | exact HS2.out _ _ BD.out)
                ((go_at_call 61; refine (iha d _ _ _ _ lo HFA.out (by omega) ((HA.out.under HW.out).under (below_drew (Below.refl _ _)))).mono ?_; rintro e wD ⟨rfl, b3⟩; have BD : Hid (Below wr.heap.size wr wD) := below_then (below_drew (Below.refl _ _)) b3; clear b3; rw [GA.out]; have ck2 := (HR.out.below BD.out).cell (i := k) (by omega); rw [HKF.out] at ck2; have fk2 := (HR.out.below BD.out).free k))
              all_goals
                clear ck fk ci n0 n1 n2 i0 i1 i2 i3 i4 i5 ES ck2 fk2
                go_wp2
                go_roundg (k - i - 1)
                case rel => exact ⟨i + 1, by omega, by go_num, _, (HR.out.below BD.out).set k bb, fun j hj => by simp only [if_neg (show j ≠ k by omega)]; exact HF.out j hj, by show (if k = k then _ else _) = _; rw [if_pos rfl, any_range_succ, ← HK.out, HKF.out, HSI.out, HBB.out]; rfl, fun j hj hj2 => by simp only [if_neg (show j ≠ k by omega)]; exact HZ.out j hj hj2, below_set (below_then HW.out BD.out) hgl _⟩
                case measure => omega
            · have HFI : Hid (f i = false) := by show _ = _; simpa using hfi
              rw [HFI.out] at ci
              have HSI := Lib.hid ((HF.out i hik).symm.trans HFI.out)
              clear hfi ES
              go_wp2
              go_region
              go_wp2
              go_roundg (k - i - 1)
              case rel => exact ⟨i + 1, by omega, by go_num, _, (HR.out.below (below_drew (Below.refl _ _))).set k false, fun j hj => by simp only [if_neg (show j ≠ k by omega)]; exact HF.out j hj, by show (if k = k then _ else _) = _; rw [if_pos rfl, any_range_succ, ← HK.out, HKF.out, HSI.out]; rfl, fun j hj hj2 => by simp only [if_neg (show j ≠ k by omega)]; exact HZ.out j hj hj2, below_set (below_drew HW.out) hgl _⟩
              case measure => omega
        · have hti : decide ((i : Int) < (k : Int)) = false := decide_eq_false (by omega)
          have hti' : decide (i < k) = false := decide_eq_false hik
          go_wp2
          go_roundg m
          case rel =>
            refine ⟨k + 1, by omega, by go_num, by omega, f, HR, fun j hj => ?_, fun j h1 h2 => HZ.out j (by omega) h2, HW⟩
            by_cases e : j = k
            · subst e
              obtain rfl : i = j := by omega
              rw [HK.out, HSR.out]
            · exact HF.out j (by omega)
          case measure => omega
    · obtain rfl : k = t.size + 1 := by omega
      have cn := HR.out.cell (i := t.size) (by omega)
      have EN : Hid (f0 t.size = starB (lang a) t.data.toList) := by
        show _ = _
        rw [HF0.out t.size (by omega), List.take_of_length_le (by rw [HT.out]; exact Nat.le_refl _)]
      rw [EN.out] at cn
      go_wp2
      go_ret
      exact ⟨rfl, below_then HB.out HW.out⟩

end Go.Proofs.Ytplhbjpkkhhilaa

/- in, SetHas. -/
namespace Go.Proofs.Ytplhbjpkkhhilaa
set_option linter.unusedSimpArgs false
set_option linter.unusedVariables false
open Go.RowKit

theorem in_c (n lo hi : Int) (w : World) :
    Calls Try.prog 51 #[.int .i64 n, .int .i64 lo, .int .i64 hi] w fun e w' => e = .returned (.bool (decide (lo ≤ n) && decide (n ≤ hi))) ∧ w = w' := by
  go_enter Try.func51, Try.ntmps51
  go_wp2
  all_goals go_ret
  · exact ⟨ret_bool (by rw [decide_eq_true (by assumption : lo ≤ n)]; rfl), rfl⟩
  · exact ⟨ret_bool (by rw [decide_eq_false (by omega : ¬ lo ≤ n)]; rfl), rfl⟩

theorem spIn_true {x : Sp} {b : Int} (h : x.lo ≤ b ∧ b ≤ x.hi) : spIn x b = true := (spIn_iff x b).2 h
theorem spIn_false {x : Sp} {b : Int} (h : b < x.lo ∨ x.hi < b) : spIn x b = false := by
  rw [Bool.eq_false_iff]
  intro hc
  have := (spIn_iff x b).1 hc
  omega

theorem iSetHas_c (A : Option Addr) (c : Nat) (xs : List Sp) (b : Int) (w : World) {lo : Nat} (h : Sps w lo A c xs) :
    Calls Try.prog 18 #[.slice A xs.length c, .int .i64 b] w fun e w' => e = .returned (.bool (setHas xs b)) ∧ Below w.heap.size w w' := by
  have hlen := h.len
  unfold maxN at hlen
  go_enter Try.func18, Try.ntmps18
  go_wp2
  go_loopg [9] (xs.length) (fun n i wr => ∃ k : Nat, k + n = xs.length ∧ i = .int .i64 k ∧ Hid (setHas (xs.drop k) b = setHas xs b) ∧ Below w.heap.size w wr)
  case atStart => exact ⟨0, by omega, rfl, by rw [List.drop_zero]; rfl, Below.refl _ _⟩
  case round =>
    obtain ⟨k, hk, rfl, HS, hb⟩ := hrel
    by_cases hlt : k < xs.length
    · obtain ⟨a, x, rfl, _, HD, h0, h1⟩ := (h.below hb).at_ k hlt
      go_wp2_with (go_at_call 51; refine (in_c _ _ _ _).mono ?_; rintro e w' ⟨rfl, rfl⟩)
      · go_ret
        exact ⟨ret_bool (by rw [← HS.out, HD.out, setHas_cons, spIn_true (by assumption)]; rfl), below_alloc hb _⟩
      · go_roundg (gk - 1)
        case rel => exact ⟨k + 1, by omega, by go_num, by rw [← HS.out, HD.out, setHas_cons, spIn_false (by assumption)]; rfl, below_alloc hb _⟩
        case measure => omega
    · go_wp2
      go_ret
      exact ⟨ret_bool (by rw [← HS.out, List.drop_of_length_le (by omega)]; rfl), hb⟩

theorem sSetHas_c (A : Option Addr) (c : Nat) (xs : List Sp) (b : Int) (w : World) {lo : Nat} (h : Sps w lo A c xs) :
    Calls Try.prog 81 #[.slice A xs.length c, .int .i64 b] w fun e w' => e = .returned (.bool (setHas xs b)) ∧ Drawn w w' := by
  have hlen := h.len
  unfold maxN at hlen
  go_enter Try.func81, Try.ntmps81
  go_wp2
  go_loopg [5] (xs.length) (fun n i wr => ∃ k : Nat, k + n = xs.length ∧ i = .int .i64 k ∧ Hid (setHas (xs.drop k) b = setHas xs b) ∧ Drawn w wr)
  case atStart => exact ⟨0, by omega, rfl, by rw [List.drop_zero]; rfl, 0, rfl⟩
  case round =>
    obtain ⟨k, hk, rfl, HS, n, rfl⟩ := hrel
    by_cases hlt : k < xs.length
    · obtain ⟨a, x, rfl, _, HD, h0, h1⟩ := h.at_ k hlt
      by_cases h2 : x.lo ≤ b
      · go_wp2
        · go_ret
          exact ⟨ret_bool (by rw [← HS.out, HD.out, setHas_cons, spIn_true ⟨h2, by assumption⟩]; rfl), n, rfl⟩
        · go_roundg (gk - 1)
          case rel => exact ⟨k + 1, by omega, by go_num, by rw [← HS.out, HD.out, setHas_cons, spIn_false (.inr (by omega))]; rfl, n, rfl⟩
          case measure => omega
      · go_wp2
        go_roundg (gk - 1)
        case rel => exact ⟨k + 1, by omega, by go_num, by rw [← HS.out, HD.out, setHas_cons, spIn_false (.inl (by omega))]; rfl, n, rfl⟩
        case measure => omega
    · go_wp2
      go_ret
      exact ⟨ret_bool (by rw [← HS.out, List.drop_of_length_le (by omega)]; rfl), n, rfl⟩

end Go.Proofs.Ytplhbjpkkhhilaa
