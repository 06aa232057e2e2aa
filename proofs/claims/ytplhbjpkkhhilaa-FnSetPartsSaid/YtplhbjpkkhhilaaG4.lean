/- Texts joined for the claims: T9 T10 SS4 SS5 SS6 C0. -/
import Derived.Test.YtplhbjpkkhhilaaG3
import Derived.Test.YtplhbjpkkhhilaaG2
import Derived.Deep.RegionHeld3
import Derived.Deep.DeepCutAuto
/- RexOk, RexMany, of the program and of the reference. -/
namespace Go.Proofs.Ytplhbjpkkhhilaa
set_option linter.unusedSimpArgs false
set_option linter.unusedVariables false
open Go.RowKit


theorem rexOk_no1 {r : Rex} (h : formed 8 r = false) : rexOk r = false := by rw [rexOk, h]; rfl
theorem rexOk_of {r : Rex} (h : formed 8 r = true) : rexOk r = decide (r.many ≤ 24) := by rw [rexOk, h]; rfl
theorem dec_le (n : Nat) : decide ((n : Int) ≤ 24) = decide (n ≤ 24) := by
  by_cases h : n ≤ 24
  · rw [decide_eq_true h, decide_eq_true (by omega)]
  · rw [decide_eq_false h, decide_eq_false (by omega)]

set_option maxHeartbeats 1000000 in
theorem iRexOk_c (r : Rex) (v1 v2 : Value) (w : World) (lo : Nat) (h : RexV w lo r (.int .i64 r.kind) v1 v2) (hsz : r.size ≤ 1048576) :
    Calls Try.prog 22 #[.agg #[.int .i64 r.kind, v1, v2]] w fun e w' => e = .returned (.bool (rexOk r)) ∧ Below w.heap.size w w' := by
  obtain ⟨A, c, K, ck, _, rfl, rfl, hs, hk⟩ := h.parts
  obtain ⟨wa, hwa⟩ : ∃ x, x = w.alloc (.cells #[.int .i64 r.kind, .slice A r.set.length c, .slice K r.kids.length ck] 34) := ⟨_, rfl⟩
  have hb : Below w.heap.size w wa := by rw [hwa]; exact below_alloc (Below.refl _ _) _
  have m0 : Blk wa w.heap.size #[.int .i64 r.kind, .slice A r.set.length c, .slice K r.kids.length ck] 34 := by rw [hwa]; exact blk_new w _ _
  have HV := Lib.hid (h.under hb)
  have HB := Lib.hid hb
  have M0 := Lib.hid m0
  clear hb m0 hs hk h
  have N0 : ∀ x : BW wa, x.w1.cell? ⟨w.heap.size, 0, none⟩ = some (.int .i64 r.kind) := fun x => by rw [(M0.out.below x.up).cell]; rfl
  have N1 : ∀ x : BW wa, x.w1.cell? ⟨w.heap.size, 1, none⟩ = some (.slice A r.set.length c) := fun x => by rw [(M0.out.below x.up).cell]; rfl
  have N2 : ∀ x : BW wa, x.w1.cell? ⟨w.heap.size, 2, none⟩ = some (.slice K r.kids.length ck) := fun x => by rw [(M0.out.below x.up).cell]; rfl
  go_enter Try.func22, Try.ntmps22
  go_wp2_with fail
  rw [← hwa]
  clear hwa
  refine (iForm_c _ 8 _ _ _ _ (by omega) HV.out).mono ?_
  rintro e w1 ⟨rfl, b1⟩
  have Hw1 : Hid (Below wa.heap.size wa w1) := b1
  have n0 := N0 ⟨w1, b1⟩
  have n1 := N1 ⟨w1, b1⟩
  have n2 := N2 ⟨w1, b1⟩
  dsimp only at n0 n1 n2
  clear N0 N1 N2 b1
  by_cases hf : formed 8 r = true
  · have HF := Lib.hid hf
    rw [hf]
    clear hf
    go_wp2_with fail
    refine (iMany_c _ _ _ _ _ (HV.out.under Hw1.out) hsz).mono ?_
    rintro e w2 ⟨rfl, b2⟩
    clear n0 n1 n2
    go_wp2
    go_ret
    exact ⟨ret_bool (by rw [rexOk_of HF.out]; simp only [dec_le]), below_then HB.out (below_then Hw1.out b2)⟩
  · have HF : Hid (formed 8 r = false) := by show _ = _; simpa using hf
    rw [HF.out]
    clear hf
    go_wp2
    go_ret
    exact ⟨ret_bool (rexOk_no1 HF.out).symm, below_then HB.out Hw1.out⟩
set_option maxHeartbeats 1000000 in
theorem sRexOk_c (r : Rex) (v1 v2 : Value) (w : World) (lo : Nat) (h : RexV w lo r (.int .i64 r.kind) v1 v2) (hsz : r.size ≤ 1048576) :
    Calls Try.prog 23 #[.agg #[.int .i64 r.kind, v1, v2]] w fun e w' => e = .returned (.bool (rexOk r)) ∧ Below w.heap.size w w' := by
  obtain ⟨A, c, K, ck, _, rfl, rfl, hs, hk⟩ := h.parts
  obtain ⟨wa, hwa⟩ : ∃ x, x = w.alloc (.cells #[.int .i64 r.kind, .slice A r.set.length c, .slice K r.kids.length ck] 34) := ⟨_, rfl⟩
  have hb : Below w.heap.size w wa := by rw [hwa]; exact below_alloc (Below.refl _ _) _
  have m0 : Blk wa w.heap.size #[.int .i64 r.kind, .slice A r.set.length c, .slice K r.kids.length ck] 34 := by rw [hwa]; exact blk_new w _ _
  have HV := Lib.hid (h.under hb)
  have HB := Lib.hid hb
  have M0 := Lib.hid m0
  clear hb m0 hs hk h
  have N0 : ∀ x : BW wa, x.w1.cell? ⟨w.heap.size, 0, none⟩ = some (.int .i64 r.kind) := fun x => by rw [(M0.out.below x.up).cell]; rfl
  have N1 : ∀ x : BW wa, x.w1.cell? ⟨w.heap.size, 1, none⟩ = some (.slice A r.set.length c) := fun x => by rw [(M0.out.below x.up).cell]; rfl
  have N2 : ∀ x : BW wa, x.w1.cell? ⟨w.heap.size, 2, none⟩ = some (.slice K r.kids.length ck) := fun x => by rw [(M0.out.below x.up).cell]; rfl
  go_enter Try.func23, Try.ntmps23
  go_wp2_with fail
  rw [← hwa]
  clear hwa
  refine (sForm_c _ 8 _ _ _ _ (by omega) HV.out).mono ?_
  rintro e w1 ⟨rfl, b1⟩
  have Hw1 : Hid (Below wa.heap.size wa w1) := b1
  have n0 := N0 ⟨w1, b1⟩
  have n1 := N1 ⟨w1, b1⟩
  have n2 := N2 ⟨w1, b1⟩
  dsimp only at n0 n1 n2
  clear N0 N1 N2 b1
  by_cases hf : formed 8 r = true
  · have HF := Lib.hid hf
    rw [hf]
    clear hf
    go_wp2_with fail
    refine (sMany_c _ 8 _ _ _ _ (by omega) (HV.out.under Hw1.out) hsz).mono ?_
    rintro e w2 ⟨rfl, b2⟩
    clear n0 n1 n2
    go_wp2
    go_ret
    exact ⟨ret_bool (by rw [rexOk_of HF.out]; simp only [dec_le]; rw [formed_many 8 r HF.out]), below_then HB.out (below_then Hw1.out b2)⟩
  · have HF : Hid (formed 8 r = false) := by show _ = _; simpa using hf
    rw [HF.out]
    clear hf
    go_wp2
    go_ret
    exact ⟨ret_bool (rexOk_no1 HF.out).symm, below_then HB.out Hw1.out⟩

def rexMany (r : Rex) : Int := if rexOk r then r.many else 0
theorem rexMany_ok {r : Rex} (h : rexOk r = true) : rexMany r = r.many := by rw [rexMany, h]; rfl
theorem rexMany_no {r : Rex} (h : rexOk r = false) : rexMany r = 0 := by rw [rexMany, h]; rfl
theorem rexOk_formed {r : Rex} (h : rexOk r = true) : formed 8 r = true := by rw [rexOk, Bool.and_eq_true] at h; exact h.1
set_option maxHeartbeats 1000000 in
theorem iRexMany_c (r : Rex) (v1 v2 : Value) (w : World) (lo : Nat) (h : RexV w lo r (.int .i64 r.kind) v1 v2) (hsz : r.size ≤ 1048576) :
    Calls Try.prog 20 #[.agg #[.int .i64 r.kind, v1, v2]] w fun e w' => e = .returned (.int .i64 (rexMany r)) ∧ Below w.heap.size w w' := by
  obtain ⟨A, c, K, ck, _, rfl, rfl, hs, hk⟩ := h.parts
  obtain ⟨wa, hwa⟩ : ∃ x, x = w.alloc (.cells #[.int .i64 r.kind, .slice A r.set.length c, .slice K r.kids.length ck] 34) := ⟨_, rfl⟩
  have hb : Below w.heap.size w wa := by rw [hwa]; exact below_alloc (Below.refl _ _) _
  have m0 : Blk wa w.heap.size #[.int .i64 r.kind, .slice A r.set.length c, .slice K r.kids.length ck] 34 := by rw [hwa]; exact blk_new w _ _
  have HV := Lib.hid (h.under hb)
  have HB := Lib.hid hb
  have M0 := Lib.hid m0
  clear hb m0 hs hk h
  have N0 : ∀ x : BW wa, x.w1.cell? ⟨w.heap.size, 0, none⟩ = some (.int .i64 r.kind) := fun x => by rw [(M0.out.below x.up).cell]; rfl
  have N1 : ∀ x : BW wa, x.w1.cell? ⟨w.heap.size, 1, none⟩ = some (.slice A r.set.length c) := fun x => by rw [(M0.out.below x.up).cell]; rfl
  have N2 : ∀ x : BW wa, x.w1.cell? ⟨w.heap.size, 2, none⟩ = some (.slice K r.kids.length ck) := fun x => by rw [(M0.out.below x.up).cell]; rfl
  go_enter Try.func20, Try.ntmps20
  go_wp2_with fail
  rw [← hwa]
  clear hwa
  refine (iRexOk_c _ _ _ _ _ HV.out hsz).mono ?_
  rintro e w1 ⟨rfl, b1⟩
  have Hw1 : Hid (Below wa.heap.size wa w1) := b1
  have n0 := N0 ⟨w1, b1⟩
  have n1 := N1 ⟨w1, b1⟩
  have n2 := N2 ⟨w1, b1⟩
  dsimp only at n0 n1 n2
  clear N0 N1 N2 b1
  by_cases hf : rexOk r = true
  · have HF := Lib.hid hf
    rw [hf]
    clear hf
    go_wp2_with fail
    refine (iMany_c _ _ _ _ _ (HV.out.under Hw1.out) hsz).mono ?_
    rintro e w2 ⟨rfl, b2⟩
    clear n0 n1 n2
    go_wp2
    go_ret
    exact ⟨ret_int (by rw [rexMany_ok HF.out]), below_then HB.out (below_then Hw1.out b2)⟩
  · have HF : Hid (rexOk r = false) := by show _ = _; simpa using hf
    rw [HF.out]
    clear hf
    go_wp2
    go_ret
    exact ⟨ret_int (rexMany_no HF.out).symm, below_then HB.out Hw1.out⟩
set_option maxHeartbeats 1000000 in
theorem sRexMany_c (r : Rex) (v1 v2 : Value) (w : World) (lo : Nat) (h : RexV w lo r (.int .i64 r.kind) v1 v2) (hsz : r.size ≤ 1048576) :
    Calls Try.prog 21 #[.agg #[.int .i64 r.kind, v1, v2]] w fun e w' => e = .returned (.int .i64 (rexMany r)) ∧ Below w.heap.size w w' := by
  obtain ⟨A, c, K, ck, _, rfl, rfl, hs, hk⟩ := h.parts
  obtain ⟨wa, hwa⟩ : ∃ x, x = w.alloc (.cells #[.int .i64 r.kind, .slice A r.set.length c, .slice K r.kids.length ck] 34) := ⟨_, rfl⟩
  have hb : Below w.heap.size w wa := by rw [hwa]; exact below_alloc (Below.refl _ _) _
  have m0 : Blk wa w.heap.size #[.int .i64 r.kind, .slice A r.set.length c, .slice K r.kids.length ck] 34 := by rw [hwa]; exact blk_new w _ _
  have HV := Lib.hid (h.under hb)
  have HB := Lib.hid hb
  have M0 := Lib.hid m0
  clear hb m0 hs hk h
  have N0 : ∀ x : BW wa, x.w1.cell? ⟨w.heap.size, 0, none⟩ = some (.int .i64 r.kind) := fun x => by rw [(M0.out.below x.up).cell]; rfl
  have N1 : ∀ x : BW wa, x.w1.cell? ⟨w.heap.size, 1, none⟩ = some (.slice A r.set.length c) := fun x => by rw [(M0.out.below x.up).cell]; rfl
  have N2 : ∀ x : BW wa, x.w1.cell? ⟨w.heap.size, 2, none⟩ = some (.slice K r.kids.length ck) := fun x => by rw [(M0.out.below x.up).cell]; rfl
  go_enter Try.func21, Try.ntmps21
  go_wp2_with fail
  rw [← hwa]
  clear hwa
  refine (sRexOk_c _ _ _ _ _ HV.out hsz).mono ?_
  rintro e w1 ⟨rfl, b1⟩
  have Hw1 : Hid (Below wa.heap.size wa w1) := b1
  have n0 := N0 ⟨w1, b1⟩
  have n1 := N1 ⟨w1, b1⟩
  have n2 := N2 ⟨w1, b1⟩
  dsimp only at n0 n1 n2
  clear N0 N1 N2 b1
  by_cases hf : rexOk r = true
  · have HF := Lib.hid hf
    rw [hf]
    clear hf
    go_wp2_with fail
    refine (sMany_c _ 8 _ _ _ _ (by omega) (HV.out.under Hw1.out) hsz).mono ?_
    rintro e w2 ⟨rfl, b2⟩
    clear n0 n1 n2
    go_wp2
    go_ret
    exact ⟨ret_int (by rw [rexMany_ok HF.out]; rw [formed_many 8 r (rexOk_formed HF.out)]), below_then HB.out (below_then Hw1.out b2)⟩
  · have HF : Hid (rexOk r = false) := by show _ = _; simpa using hf
    rw [HF.out]
    clear hf
    go_wp2
    go_ret
    exact ⟨ret_int (rexMany_no HF.out).symm, below_then HB.out Hw1.out⟩

end Go.Proofs.Ytplhbjpkkhhilaa

/- null, l2Null: whether the empty text is like a tree. -/
namespace Go.Proofs.Ytplhbjpkkhhilaa
set_option linter.unusedSimpArgs false
set_option linter.unusedVariables false
open Go.RowKit

theorem kidsOf_cases {k : Int} {n : Nat} (h : kidsOf k = n) : (k = 1 ∨ k = 2) ∧ n = 0 ∨ (k = 5 ∨ k = 7) ∧ n = 1 ∨ (k = 3 ∨ k = 4 ∨ k = 6) ∧ n = 2 := by
  unfold kidsOf at h
  split at h
  · left; omega
  · split at h
    · right; left; omega
    · split at h
      · right; right; omega
      · omega
theorem formed_node {d : Nat} {k : Int} {s : List Sp} {ks : List Rex} (h : formed d (.mk k s ks) = true) : kidsOf k = ks.length ∧ (k = 1 ∨ s = []) ∧ setOk s = true ∧ 0 < d ∧ ∀ r, r ∈ ks → formed (d - 1) r = true := by
  cases d with
  | zero => simp [formed] at h
  | succ d =>
    rw [formed, Bool.and_eq_true, List.all_eq_true] at h
    obtain ⟨h1, h2⟩ := h
    simp only [nodeOk, Rex.kind, Rex.set, Rex.kids, Bool.and_eq_true, Bool.or_eq_true, decide_eq_true_eq, List.isEmpty_iff] at h1
    exact ⟨of_decide_eq_true h1.1.1, h1.1.2.imp of_decide_eq_true id, h1.2, by omega, h2⟩
theorem formed_shape {d : Nat} {k : Int} {s : List Sp} {ks : List Rex} (h : formed d (.mk k s ks) = true) :
    (k = 1 ∨ k = 2) ∧ ks = [] ∨ (k = 5 ∨ k = 7) ∧ (∃ a, ks = [a] ∧ formed (d - 1) a = true) ∨ (k = 3 ∨ k = 4 ∨ k = 6) ∧ ∃ a b, ks = [a, b] ∧ formed (d - 1) a = true ∧ formed (d - 1) b = true := by
  obtain ⟨h1, _, _, _, h5⟩ := formed_node h
  rcases kidsOf_cases h1 with ⟨e, hn⟩ | ⟨e, hn⟩ | ⟨e, hn⟩
  · exact .inl ⟨e, List.length_eq_zero_iff.1 hn⟩
  · obtain ⟨a, rfl⟩ := List.length_eq_one_iff.1 hn
    exact .inr (.inl ⟨e, a, rfl, h5 a (by simp)⟩)
  · match ks, hn with
    | [a, b], _ => exact .inr (.inr ⟨e, a, b, rfl, h5 a (by simp), h5 b (by simp)⟩)
/-- the kids of one and of two -/
theorem Kids.one {w : World} {lo : Nat} {K : Option Addr} {ck : Nat} {x : Rex} (h : Kids w lo K ck [x]) :
    ∃ a v1 v2, K = some a ∧ RexV w lo x (.int .i64 x.kind) v1 v2 ∧ w.cell? a = some (.int .i64 x.kind) ∧ w.cell? ⟨a.block, a.off + 1, none⟩ = some v1 ∧ w.cell? ⟨a.block, a.off + 2, none⟩ = some v2 := by
  obtain ⟨a, r, v1, v2, e, HX, _, HV, c0, c1, c2⟩ := h.at_ 0 (by simp)
  obtain rfl : x = r := by simpa using HX.out
  rw [show a.add (0 * 3) = a by simp [Addr.add]] at c0 c1 c2
  exact ⟨a, v1, v2, e, HV.out, c0, c1, c2⟩
theorem Kids.two {w : World} {lo : Nat} {K : Option Addr} {ck : Nat} {x y : Rex} (h : Kids w lo K ck [x, y]) :
    ∃ a v1 v2 u1 u2, K = some a ∧ RexV w lo x (.int .i64 x.kind) v1 v2 ∧ w.cell? a = some (.int .i64 x.kind) ∧ w.cell? ⟨a.block, a.off + 1, none⟩ = some v1 ∧ w.cell? ⟨a.block, a.off + 2, none⟩ = some v2 ∧
      RexV w lo y (.int .i64 y.kind) u1 u2 ∧ w.cell? ⟨a.block, a.off + 3, none⟩ = some (.int .i64 y.kind) ∧ w.cell? ⟨a.block, a.off + 3 + 1, none⟩ = some u1 ∧ w.cell? ⟨a.block, a.off + 3 + 2, none⟩ = some u2 := by
  obtain ⟨a, r, v1, v2, e, HX, _, HV, c0, c1, c2⟩ := h.at_ 0 (by simp)
  obtain ⟨a', r', u1, u2, e', HX', _, HV', c0', c1', c2'⟩ := h.at_ 1 (by simp)
  obtain rfl : x = r := by simpa using HX.out
  obtain rfl : y = r' := by simpa using HX'.out
  obtain rfl : a = a' := by rw [e] at e'; exact Option.some.inj e'
  rw [show a.add (0 * 3) = a by simp [Addr.add]] at c0 c1 c2
  rw [show a.add (1 * 3) = ⟨a.block, a.off + 3, none⟩ by simp [Addr.add]] at c0' c1' c2'
  exact ⟨a, v1, v2, u1, u2, e, HV.out, c0, c1, c2, HV'.out, c0', c1', c2'⟩

def iNullOk (r : Rex) : Prop := ∀ (d : Nat) (v1 v2 : Value) (w : World) (lo : Nat), formed d r = true → RexV w lo r (.int .i64 r.kind) v1 v2 →
  Calls Try.prog 62 #[.agg #[.int .i64 r.kind, v1, v2]] w fun e w' => e = .returned (.bool (null r)) ∧ Below w.heap.size w w'
set_option maxHeartbeats 2000000 in
theorem iNull_c (r : Rex) : iNullOk r := by
  refine Rex.ind (p := iNullOk) (fun k s ks ih => ?_) r
  intro d v1 v2 w lo hd h
  obtain ⟨A, c, K, ck, _, rfl, rfl, hs, hk⟩ := h.parts
  dsimp only [Rex.kind, Rex.set, Rex.kids] at hs hk ⊢
  clear h
  rcases formed_shape hd with ⟨e, rfl⟩ | ⟨e, a, rfl, ha⟩ | ⟨e, a, b, rfl, ha, hb⟩
  · clear hd
    simp only [List.length_nil]
    rcases e with rfl | rfl
    · go_enter Try.func62, Try.ntmps62
      go_wp2
      go_ret
      exact ⟨rfl, below_alloc (Below.refl _ _) _⟩
    · go_enter Try.func62, Try.ntmps62
      go_wp2
      go_ret
      exact ⟨rfl, below_alloc (Below.refl _ _) _⟩
  · clear hd
    simp only [List.length_cons, List.length_nil, Nat.zero_add]
    rcases e with rfl | rfl
    · go_enter Try.func62, Try.ntmps62
      go_wp2
      go_ret
      exact ⟨rfl, below_alloc (Below.refl _ _) _⟩
    · obtain ⟨wa, hwa⟩ : ∃ x, x = w.alloc (.cells #[.int .i64 7, .slice A s.length c, .slice K 1 ck] 34) := ⟨_, rfl⟩
      have hb : Below w.heap.size w wa := by rw [hwa]; exact below_alloc (Below.refl _ _) _
      have m0 : Blk wa w.heap.size #[.int .i64 7, .slice A s.length c, .slice K 1 ck] 34 := by rw [hwa]; exact blk_new w _ _
      have HS := Lib.hid (hs.below hb)
      have HK := Lib.hid (hk.below hb)
      have HB := Lib.hid hb
      have M0 := Lib.hid m0
      clear hb m0 hs hk
      replace hwa := hwa.symm
      have N0 : ∀ x : BW wa, x.w1.cell? ⟨w.heap.size, 0, none⟩ = some (.int .i64 7) := fun x => by rw [(M0.out.below x.up).cell]; rfl
      have N1 : ∀ x : BW wa, x.w1.cell? ⟨w.heap.size, 1, none⟩ = some (.slice A s.length c) := fun x => by rw [(M0.out.below x.up).cell]; rfl
      have N2 : ∀ x : BW wa, x.w1.cell? ⟨w.heap.size, 2, none⟩ = some (.slice K 1 ck) := fun x => by rw [(M0.out.below x.up).cell]; rfl
      have n0 := N0 ⟨wa, Below.refl _ _⟩
      have n1 := N1 ⟨wa, Below.refl _ _⟩
      have n2 := N2 ⟨wa, Below.refl _ _⟩
      dsimp only at n0 n1 n2
      clear N0 N1 N2
      obtain ⟨a', x1, x2, rfl, hv, c0, c1, c2⟩ := HK.out.one
      have HV := Lib.hid hv
      clear hv
      go_enter Try.func62, Try.ntmps62
      go_wp2_with fail
      clear hwa
      refine (ih a (by simp) _ _ _ _ _ ha HV.out).mono ?_
      rintro e w1 ⟨rfl, b1⟩
      clear n0 n1 n2 c0 c1 c2
      go_wp2
      go_ret
      exact ⟨ret_bool (by simp [null, nullAt]), below_then HB.out b1⟩
  · clear hd
    simp only [List.length_cons, List.length_nil, Nat.zero_add, Nat.reduceAdd]
    rcases e with rfl | rfl | rfl
    · obtain ⟨wa, hwa⟩ : ∃ x, x = w.alloc (.cells #[.int .i64 3, .slice A s.length c, .slice K 2 ck] 34) := ⟨_, rfl⟩
      have hb : Below w.heap.size w wa := by rw [hwa]; exact below_alloc (Below.refl _ _) _
      have m0 : Blk wa w.heap.size #[.int .i64 3, .slice A s.length c, .slice K 2 ck] 34 := by rw [hwa]; exact blk_new w _ _
      have HS := Lib.hid (hs.below hb)
      have HK := Lib.hid (hk.below hb)
      have HB := Lib.hid hb
      have M0 := Lib.hid m0
      clear hb m0 hs hk
      replace hwa := hwa.symm
      have N0 : ∀ x : BW wa, x.w1.cell? ⟨w.heap.size, 0, none⟩ = some (.int .i64 3) := fun x => by rw [(M0.out.below x.up).cell]; rfl
      have N1 : ∀ x : BW wa, x.w1.cell? ⟨w.heap.size, 1, none⟩ = some (.slice A s.length c) := fun x => by rw [(M0.out.below x.up).cell]; rfl
      have N2 : ∀ x : BW wa, x.w1.cell? ⟨w.heap.size, 2, none⟩ = some (.slice K 2 ck) := fun x => by rw [(M0.out.below x.up).cell]; rfl
      have n0 := N0 ⟨wa, Below.refl _ _⟩
      have n1 := N1 ⟨wa, Below.refl _ _⟩
      have n2 := N2 ⟨wa, Below.refl _ _⟩
      dsimp only at n0 n1 n2
      clear N0 N1 N2
      obtain ⟨a', x1, x2, y1, y2, rfl, hv, c0, c1, c2, hv', d0, d1, d2⟩ := HK.out.two
      have HV := Lib.hid hv
      have HV' := Lib.hid hv'
      clear hv hv'
      have C3 : ∀ w' : World, Below wa.heap.size wa w' → w'.cell? ⟨a'.block, a'.off + 3, none⟩ = some (.int .i64 b.kind) ∧ w'.cell? ⟨a'.block, a'.off + 3 + 1, none⟩ = some y1 ∧ w'.cell? ⟨a'.block, a'.off + 3 + 2, none⟩ = some y2 := fun w' hb =>
        ⟨(BW.cell ⟨w', hb⟩ d0 :), (BW.cell ⟨w', hb⟩ d1 :), (BW.cell ⟨w', hb⟩ d2 :)⟩
      have HC := Lib.hid C3
      clear C3
      go_enter Try.func62, Try.ntmps62
      go_wp2_with fail
      clear hwa
      refine (ih a (by simp) _ _ _ _ _ ha HV.out).mono ?_
      rintro e w1 ⟨rfl, b1⟩
      have H1 := Lib.hid b1
      obtain ⟨z0, z1, z2⟩ := HC.out w1 b1
      clear n0 n1 n2 c0 c1 c2 d0 d1 d2
      have n2 : w1.cell? ⟨w.heap.size, 2, none⟩ = some (.slice (some a') 2 ck) := by rw [(M0.out.below b1).cell]; rfl
      clear b1
      by_cases hn : null a = true
      · have HN := Lib.hid hn
        rw [hn]
        clear hn
        go_wp2_with fail
        refine (ih b (by simp) _ _ _ _ _ hb (HV'.out.under H1.out)).mono ?_
        rintro e w2 ⟨rfl, b2⟩
        clear n2 z0 z1 z2
        go_wp2
        go_ret
        exact ⟨ret_bool (by simp [null, nullAt, HN.out]), below_then HB.out (below_then H1.out b2)⟩
      · have HN : Hid (null a = !true) := by show _ = _; simpa using hn
        rw [HN.out]
        clear hn
        go_wp2
        go_ret
        exact ⟨ret_bool (by simp [null, nullAt, HN.out]), below_then HB.out H1.out⟩
    · obtain ⟨wa, hwa⟩ : ∃ x, x = w.alloc (.cells #[.int .i64 4, .slice A s.length c, .slice K 2 ck] 34) := ⟨_, rfl⟩
      have hb : Below w.heap.size w wa := by rw [hwa]; exact below_alloc (Below.refl _ _) _
      have m0 : Blk wa w.heap.size #[.int .i64 4, .slice A s.length c, .slice K 2 ck] 34 := by rw [hwa]; exact blk_new w _ _
      have HS := Lib.hid (hs.below hb)
      have HK := Lib.hid (hk.below hb)
      have HB := Lib.hid hb
      have M0 := Lib.hid m0
      clear hb m0 hs hk
      replace hwa := hwa.symm
      have N0 : ∀ x : BW wa, x.w1.cell? ⟨w.heap.size, 0, none⟩ = some (.int .i64 4) := fun x => by rw [(M0.out.below x.up).cell]; rfl
      have N1 : ∀ x : BW wa, x.w1.cell? ⟨w.heap.size, 1, none⟩ = some (.slice A s.length c) := fun x => by rw [(M0.out.below x.up).cell]; rfl
      have N2 : ∀ x : BW wa, x.w1.cell? ⟨w.heap.size, 2, none⟩ = some (.slice K 2 ck) := fun x => by rw [(M0.out.below x.up).cell]; rfl
      have n0 := N0 ⟨wa, Below.refl _ _⟩
      have n1 := N1 ⟨wa, Below.refl _ _⟩
      have n2 := N2 ⟨wa, Below.refl _ _⟩
      dsimp only at n0 n1 n2
      clear N0 N1 N2
      obtain ⟨a', x1, x2, y1, y2, rfl, hv, c0, c1, c2, hv', d0, d1, d2⟩ := HK.out.two
      have HV := Lib.hid hv
      have HV' := Lib.hid hv'
      clear hv hv'
      have C3 : ∀ w' : World, Below wa.heap.size wa w' → w'.cell? ⟨a'.block, a'.off + 3, none⟩ = some (.int .i64 b.kind) ∧ w'.cell? ⟨a'.block, a'.off + 3 + 1, none⟩ = some y1 ∧ w'.cell? ⟨a'.block, a'.off + 3 + 2, none⟩ = some y2 := fun w' hb =>
        ⟨(BW.cell ⟨w', hb⟩ d0 :), (BW.cell ⟨w', hb⟩ d1 :), (BW.cell ⟨w', hb⟩ d2 :)⟩
      have HC := Lib.hid C3
      clear C3
      go_enter Try.func62, Try.ntmps62
      go_wp2_with fail
      clear hwa
      refine (ih a (by simp) _ _ _ _ _ ha HV.out).mono ?_
      rintro e w1 ⟨rfl, b1⟩
      have H1 := Lib.hid b1
      obtain ⟨z0, z1, z2⟩ := HC.out w1 b1
      clear n0 n1 n2 c0 c1 c2 d0 d1 d2
      have n2 : w1.cell? ⟨w.heap.size, 2, none⟩ = some (.slice (some a') 2 ck) := by rw [(M0.out.below b1).cell]; rfl
      clear b1
      by_cases hn : null a = false
      · have HN := Lib.hid hn
        rw [hn]
        clear hn
        go_wp2_with fail
        refine (ih b (by simp) _ _ _ _ _ hb (HV'.out.under H1.out)).mono ?_
        rintro e w2 ⟨rfl, b2⟩
        clear n2 z0 z1 z2
        go_wp2
        go_ret
        exact ⟨ret_bool (by simp [null, nullAt, HN.out]), below_then HB.out (below_then H1.out b2)⟩
      · have HN : Hid (null a = !false) := by show _ = _; simpa using hn
        rw [HN.out]
        clear hn
        go_wp2
        go_ret
        exact ⟨ret_bool (by simp [null, nullAt, HN.out]), below_then HB.out H1.out⟩
    · obtain ⟨wa, hwa⟩ : ∃ x, x = w.alloc (.cells #[.int .i64 6, .slice A s.length c, .slice K 2 ck] 34) := ⟨_, rfl⟩
      have hb : Below w.heap.size w wa := by rw [hwa]; exact below_alloc (Below.refl _ _) _
      have m0 : Blk wa w.heap.size #[.int .i64 6, .slice A s.length c, .slice K 2 ck] 34 := by rw [hwa]; exact blk_new w _ _
      have HS := Lib.hid (hs.below hb)
      have HK := Lib.hid (hk.below hb)
      have HB := Lib.hid hb
      have M0 := Lib.hid m0
      clear hb m0 hs hk
      replace hwa := hwa.symm
      have N0 : ∀ x : BW wa, x.w1.cell? ⟨w.heap.size, 0, none⟩ = some (.int .i64 6) := fun x => by rw [(M0.out.below x.up).cell]; rfl
      have N1 : ∀ x : BW wa, x.w1.cell? ⟨w.heap.size, 1, none⟩ = some (.slice A s.length c) := fun x => by rw [(M0.out.below x.up).cell]; rfl
      have N2 : ∀ x : BW wa, x.w1.cell? ⟨w.heap.size, 2, none⟩ = some (.slice K 2 ck) := fun x => by rw [(M0.out.below x.up).cell]; rfl
      have n0 := N0 ⟨wa, Below.refl _ _⟩
      have n1 := N1 ⟨wa, Below.refl _ _⟩
      have n2 := N2 ⟨wa, Below.refl _ _⟩
      dsimp only at n0 n1 n2
      clear N0 N1 N2
      obtain ⟨a', x1, x2, y1, y2, rfl, hv, c0, c1, c2, hv', d0, d1, d2⟩ := HK.out.two
      have HV := Lib.hid hv
      have HV' := Lib.hid hv'
      clear hv hv'
      have C3 : ∀ w' : World, Below wa.heap.size wa w' → w'.cell? ⟨a'.block, a'.off + 3, none⟩ = some (.int .i64 b.kind) ∧ w'.cell? ⟨a'.block, a'.off + 3 + 1, none⟩ = some y1 ∧ w'.cell? ⟨a'.block, a'.off + 3 + 2, none⟩ = some y2 := fun w' hb =>
        ⟨(BW.cell ⟨w', hb⟩ d0 :), (BW.cell ⟨w', hb⟩ d1 :), (BW.cell ⟨w', hb⟩ d2 :)⟩
      have HC := Lib.hid C3
      clear C3
      go_enter Try.func62, Try.ntmps62
      go_wp2_with fail
      clear hwa
      refine (ih a (by simp) _ _ _ _ _ ha HV.out).mono ?_
      rintro e w1 ⟨rfl, b1⟩
      have H1 := Lib.hid b1
      obtain ⟨z0, z1, z2⟩ := HC.out w1 b1
      clear n0 n1 n2 c0 c1 c2 d0 d1 d2
      have n2 : w1.cell? ⟨w.heap.size, 2, none⟩ = some (.slice (some a') 2 ck) := by rw [(M0.out.below b1).cell]; rfl
      clear b1
      by_cases hn : null a = true
      · have HN := Lib.hid hn
        rw [hn]
        clear hn
        go_wp2_with fail
        refine (ih b (by simp) _ _ _ _ _ hb (HV'.out.under H1.out)).mono ?_
        rintro e w2 ⟨rfl, b2⟩
        clear n2 z0 z1 z2
        go_wp2
        go_ret
        exact ⟨ret_bool (by simp [null, nullAt, HN.out]), below_then HB.out (below_then H1.out b2)⟩
      · have HN : Hid (null a = !true) := by show _ = _; simpa using hn
        rw [HN.out]
        clear hn
        go_wp2
        go_ret
        exact ⟨ret_bool (by simp [null, nullAt, HN.out]), below_then HB.out H1.out⟩
end Go.Proofs.Ytplhbjpkkhhilaa

/- setsOf of the program. -/
namespace Go.Proofs.Ytplhbjpkkhhilaa
set_option linter.unusedSimpArgs false
set_option linter.unusedVariables false
open Go.RowKit

theorem vblk_nodup (v : Value) : (vblk v).Nodup := by
  unfold vblk
  split <;> simp
theorem OwnSS.app {w w' : World} {fp : List Nat} {v v' : Value} {xss yss : List (List Sp)} {L M : List Value} (h : OwnSS w fp v xss L) (hM : yss.length = M.length) (hr : ∀ (i : Nat) (ys : List Sp) (y : Value), yss[i]? = some ys → M[i]? = some y → OwnSp w 0 y ys)
    (hnd : (M.flatMap vblk).Nodup) (hdj : ∀ b, b ∈ M.flatMap vblk → b ∉ fp) (hown : w'.ownsRow 0 TSS 1 v' (xss.length + yss.length) (L ++ M)) (hg : w.grownBy w' v.ownBlock) (hat : ∀ b, b ∈ vblk v' → b ∈ vblk v ∨ b = w.heap.size)
    (hn : xss.length + yss.length ≤ maxN) : OwnSS w' (vblk v' ++ (L ++ M).flatMap vblk) v' (xss ++ yss) (L ++ M) := by
  have hlt := h.lt
  obtain ⟨hL, hk, _, hro, fe, nd⟩ := h
  have ht := Touch.of_grown hg
  subst fe
  obtain ⟨n1, n2, n3⟩ := List.nodup_append.1 nd
  have hMlt : ∀ b, b ∈ M.flatMap vblk → b < w.heap.size := fun b hb => by
    obtain ⟨i, x, hx, hb⟩ := mem_vbs.1 hb
    have hi := (List.getElem?_eq_some_iff.1 hx).1
    exact ((hr i (yss[i]'(by omega)) x (List.getElem?_eq_getElem _) hx).lt b hb).2
  refine ⟨by simp [hL, hM], by simpa using hown, by simpa using hn, fun i xs x hi hx => ?_, rfl, ?_⟩
  · by_cases hlt' : i < xss.length
    · rw [List.getElem?_append_left hlt'] at hi
      rw [List.getElem?_append_left (by omega)] at hx
      have ho := hro i xs x hi hx
      exact ho.stay fun b hb => ht.block b (ho.lt b hb).2 fun h2 => n3 b h2 b (mem_vbs.2 ⟨i, x, hx, hb⟩) rfl
    · rw [List.getElem?_append_right (by omega)] at hi
      rw [List.getElem?_append_right (by omega)] at hx
      rw [hL] at hi
      have ho := hr _ xs x hi hx
      exact ho.stay fun b hb => ht.block b (ho.lt b hb).2 fun h2 => hdj b (mem_vbs.2 ⟨_, x, hx, hb⟩) (List.mem_append_left _ h2)
  · rw [List.flatMap_append]
    refine List.nodup_append.2 ⟨vblk_nodup _, List.nodup_append.2 ⟨n2, hnd, fun a ha b hb e => hdj b hb (e ▸ List.mem_append_right _ ha)⟩, fun a ha b hb e => ?_⟩
    subst e
    rcases hat a ha with h1 | h1
    · rcases List.mem_append.1 hb with h2 | h2
      · exact n3 a h1 a h2 rfl
      · exact hdj a h2 (List.mem_append_left _ h1)
    · rcases List.mem_append.1 hb with h2 | h2
      · have := hlt a (List.mem_append_right _ h2); omega
      · have := hMlt a h2; omega
theorem setsOfL_append : ∀ (ks ls : List Rex), setsOfL (ks ++ ls) = setsOfL ks ++ setsOfL ls
  | [], ls => by simp [setsOfL]
  | r :: ks, ls => by rw [List.cons_append, setsOfL, setsOfL, setsOfL_append ks ls, List.append_assoc]
theorem setsOfL_take {ks : List Rex} {j : Nat} {r : Rex} (h : ks[j]? = some r) : setsOfL (ks.take (j + 1)) = setsOfL (ks.take j) ++ setsOf r := by
  rw [List.take_add_one, h, setsOfL_append]
  simp [setsOfL]
mutual
theorem sets_many : ∀ r : Rex, (setsOf r).length ≤ r.many
  | .mk k s ks => by
    have := setsL_many ks
    rw [setsOf, Rex.many, List.length_append]
    split <;> simp <;> omega
theorem setsL_many : ∀ ks : List Rex, (setsOfL ks).length ≤ manyL ks
  | [] => by simp [setsOfL, manyL]
  | r :: ks => by
    have h1 := sets_many r
    have h2 := setsL_many ks
    rw [setsOfL, manyL, List.length_append]
    omega
end
theorem manyL_take : ∀ (ks : List Rex) (j : Nat) {r : Rex}, ks[j]? = some r → manyL (ks.take j) + r.many ≤ manyL ks
  | [], j, r, h => by simp at h
  | x :: ks, 0, r, h => by
    simp at h
    subst h
    simp [manyL]
  | x :: ks, j + 1, r, h => by
    have := manyL_take ks j (r := r) (by simpa using h)
    rw [List.take_succ_cons, manyL, manyL]
    omega

end Go.Proofs.Ytplhbjpkkhhilaa

/- setsOf of the program, walked. -/
namespace Go.Proofs.Ytplhbjpkkhhilaa
set_option linter.unusedSimpArgs false
set_option linter.unusedVariables false
open Go.RowKit

theorem slice_one (A : Option Addr) (n c : Nat) : ∀ u ∈ [Value.slice A n c], u.oneCell' = true := by
  intro u hu
  simp at hu
  subst hu
  rfl
theorem below_alloc' {w w' : World} (h : Below w.heap.size w w') (o : Obj) : Below w.heap.size w (w'.alloc o) := below_alloc h o
end Go.Proofs.Ytplhbjpkkhhilaa

/- RexSets of the program; l2Sets of the reference. -/
namespace Go.Proofs.Ytplhbjpkkhhilaa
set_option linter.unusedSimpArgs false
set_option linter.unusedVariables false
open Go.RowKit

def rexSets (r : Rex) : List (List Sp) := if rexOk r then setsOf r else []
theorem OwnSS.nil (w : World) : OwnSS w [] nilS [] [] := ⟨rfl, World.ownsRow_nil _ _ _ _, by simp, fun i xs x h => by simp at h, rfl, List.nodup_nil⟩
theorem OwnSS.copy {w w' : World} {fp : List Nat} {v v' : Value} {xss : List (List Sp)} {L : List Value} (h : OwnSS w fp v xss L) (hown : w'.ownsRow w.heap.size TSS 1 v' xss.length L) (hb : Below w.heap.size w w') : OwnSS w' (vblk v' ++ L.flatMap vblk) v' xss L := by
  have hlt := h.lt
  have hu := h.under hb
  obtain ⟨hL, hk, hn, hr, fe, nd⟩ := hu
  subst fe
  refine ⟨hL, own_lower hown (Nat.zero_le _), hn, hr, rfl, ?_⟩
  refine List.nodup_append.2 ⟨vblk_nodup _, (List.nodup_append.1 nd).2.1, fun a ha b hb e => ?_⟩
  subst e
  have h1 := (hown.lt a (mem_vblk.1 ha)).1
  have h2 := hlt a (List.mem_append_right _ hb)
  omega
theorem OwnSS.ones {w : World} {fp : List Nat} {v : Value} {xss : List (List Sp)} {L : List Value} (h : OwnSS w fp v xss L) : ∀ u ∈ L, u.oneCell' = true := fun u hu => by
  obtain ⟨i, hi⟩ := List.getElem?_of_mem hu
  have hl := (List.getElem?_eq_some_iff.1 hi).1
  have hL := h.hL
  obtain ⟨A, c, e, _⟩ := (h.hr i (xss[i]'(by omega)) u (List.getElem?_eq_getElem _) hi).sps
  subst e
  rfl
theorem ok_many {r : Rex} (h : rexOk r = true) : r.many ≤ 24 := by
  rw [rexOk, Bool.and_eq_true] at h
  exact of_decide_eq_true h.2

end Go.Proofs.Ytplhbjpkkhhilaa

/- Copies of trees: what their statements leave. -/
namespace Go.Proofs.Ytplhbjpkkhhilaa
set_option linter.unusedSimpArgs false
set_option linter.unusedVariables false
open Go.RowKit

/-- a row of trees, as cells -/
structure KRow (w : World) (lo : Nat) (K : Option Addr) (ks : List Rex) (cs : List Value) : Prop where
  row : Row w lo K cs
  len : cs.length = ks.length * 3
  one : ∀ u ∈ cs, u.oneCell' = true
  each : ∀ (i : Nat) (r : Rex), ks[i]? = some r → ∃ v1 v2, cs[i * 3]? = some (.int .i64 r.kind) ∧ cs[i * 3 + 1]? = some v1 ∧ cs[i * 3 + 2]? = some v2 ∧ RexV w lo r (.int .i64 r.kind) v1 v2
theorem KCell.succ {w : World} {lo : Nat} {K : Option Addr} {i : Nat} {u0 u1 u2 : Value} (h : KCell w lo K i u0 u1 u2) : ∃ a, K = some a ∧ lo ≤ a.block ∧ w.cell? (a.add (i * 3)) = some u0 ∧ w.cell? (a.add (i * 3 + 1)) = some u1 ∧ w.cell? (a.add (i * 3 + 2)) = some u2 := by
  obtain ⟨a, e, hl, h0, h1, h2⟩ := h.ex
  exact ⟨a, e, hl, h0, by rw [add_field _ _ 1 (by omega)]; exact h1, by rw [add_field _ _ 2 (by omega)]; exact h2⟩
def threes (f : Nat → Value × Value × Value) : Nat → List Value
  | 0 => []
  | n + 1 => threes f n ++ [(f n).1, (f n).2.1, (f n).2.2]
theorem threes_length (f : Nat → Value × Value × Value) : ∀ n, (threes f n).length = n * 3
  | 0 => rfl
  | n + 1 => by rw [threes, List.length_append, threes_length f n]; simp; omega
theorem threes_get (f : Nat → Value × Value × Value) : ∀ n i, i < n → (threes f n)[i * 3]? = some (f i).1 ∧ (threes f n)[i * 3 + 1]? = some (f i).2.1 ∧ (threes f n)[i * 3 + 2]? = some (f i).2.2
  | 0, i, h => absurd h (Nat.not_lt_zero _)
  | n + 1, i, h => by
    have hl := threes_length f n
    rw [threes]
    by_cases e : i = n
    · subst e
      refine ⟨?_, ?_, ?_⟩
      · rw [List.getElem?_append_right (by omega), hl]; simp
      · rw [List.getElem?_append_right (by omega), hl, show i * 3 + 1 - i * 3 = 1 by omega]; simp
      · rw [List.getElem?_append_right (by omega), hl, show i * 3 + 2 - i * 3 = 2 by omega]; simp
    · have := threes_get f n i (by omega)
      rw [List.getElem?_append_left (by omega), List.getElem?_append_left (by omega), List.getElem?_append_left (by omega)]
      exact this
theorem threes_mem (f : Nat → Value × Value × Value) : ∀ n u, u ∈ threes f n → ∃ i, i < n ∧ (u = (f i).1 ∨ u = (f i).2.1 ∨ u = (f i).2.2)
  | 0, u, h => by simp [threes] at h
  | n + 1, u, h => by
    rw [threes, List.mem_append] at h
    rcases h with h | h
    · obtain ⟨i, hi, e⟩ := threes_mem f n u h
      exact ⟨i, by omega, e⟩
    · simp at h
      exact ⟨n, by omega, h⟩
theorem Kids.krow {w : World} {lo : Nat} {K : Option Addr} {ck : Nat} {ks : List Rex} (h : Kids w lo K ck ks) : ∃ cs, KRow w lo K ks cs := by
  obtain ⟨⟨V0, V1, V2, hc, hr⟩, _, _⟩ := h
  refine ⟨threes (fun i => (V0 i, V1 i, V2 i)) ks.length, ?_, threes_length _ _, fun u hu => ?_, fun i r hi => ?_⟩
  · by_cases h0 : ks.length = 0
    · rw [h0]; exact .inl rfl
    · obtain ⟨a, rfl, hl, _⟩ := (hc 0 (by omega)).succ
      refine .inr ⟨a, rfl, hl, fun j u hj => ?_⟩
      have hjl : j < ks.length * 3 := by rw [← threes_length (fun i => (V0 i, V1 i, V2 i)) ks.length]; exact (List.getElem?_eq_some_iff.1 hj).1
      obtain ⟨i, t, ht, rfl⟩ : ∃ i t, t < 3 ∧ j = i * 3 + t := ⟨j / 3, j % 3, Nat.mod_lt _ (by omega), by omega⟩
      have hi : i < ks.length := by omega
      obtain ⟨a', e, _, c0, c1, c2⟩ := (hc i hi).succ
      injection e with e
      subst e
      obtain ⟨g0, g1, g2⟩ := threes_get (fun i => (V0 i, V1 i, V2 i)) ks.length i hi
      match t, ht with
      | 0, _ => rw [Nat.add_zero] at hj ⊢; rw [g0] at hj; injection hj with hj; subst hj; exact c0
      | 1, _ => rw [g1] at hj; injection hj with hj; subst hj; exact c1
      | 2, _ => rw [g2] at hj; injection hj with hj; subst hj; exact c2
  · obtain ⟨i, hi, e⟩ := threes_mem _ _ _ hu
    have hv := (hr i (ks[i]) (List.getElem?_eq_getElem hi)).one
    rcases e with e | e | e
    · exact hv u (by simp [e])
    · exact hv u (by simp [e])
    · exact hv u (by simp [e])
  · have hi' := (List.getElem?_eq_some_iff.1 hi).1
    have hv := hr i r hi
    obtain ⟨_, _, _, _, e0, _⟩ := hv.parts
    obtain ⟨g0, g1, g2⟩ := threes_get (fun i => (V0 i, V1 i, V2 i)) ks.length i hi'
    dsimp only at g0 g1 g2
    rw [e0] at g0 hv
    exact ⟨V1 i, V2 i, g0, g1, g2, hv⟩

def CopyPost (k : Int) (s : List Sp) (ks : List Rex) (w : World) (e : Ending) (w' : World) : Prop := ∃ u1 u2 fp, e = .returned (.agg #[.int .i64 k, u1, u2]) ∧ OwnT w' fp (.mk k s ks) u1 u2 ∧ fp.Nodup ∧ (∀ b, b ∈ fp → w.heap.size ≤ b) ∧ Below w.heap.size w w'
def CopyOk (r : Rex) : Prop := ∀ (v1 v2 : Value) (w : World) (lo : Nat), RexV w lo r (.int .i64 r.kind) v1 v2 → r.size ≤ 1073741824 →
  Calls Try.prog 64 #[.agg #[.int .i64 r.kind, v1, v2]] w (CopyPost r.kind r.set r.kids w)

/-- what the first statement leaves -/
structure CopyMid (wb wx : World) (g : Nat) (k : Int) (s : List Sp) (n : Nat) (cs : List Value) (vS vK : Value) : Prop where
  blk : Blk wx g #[.int .i64 k, vS, vK] TRx
  set : OwnSp wx wb.heap.size vS s
  row : wx.ownsRow wb.heap.size TRx 3 vK n cs
  bel : Below wb.heap.size wb wx
  gS : g ∉ vblk vS
  gK : g ∉ vblk vK
  gl : wb.heap.size ≤ g
  dj : ∀ b, b ∈ vblk vS → b ∈ vblk vK → False
def CopyMidP (wb : World) (k : Int) (s : List Sp) (n : Nat) (cs : List Value) (v : Value) (wx : World) : Prop := ∃ g vS vK, v = .pointer (some ⟨g, 0, none⟩) ∧ CopyMid wb wx g k s n cs vS vK

abbrev Z0 : Obj := .cells #[.int .i64 0, nilS, nilS] TRx (0, 0)
theorem own_re {w : World} {base base' n size : Nat} {e : TypeId} {v : Value} {cs : List Value} (h : w.ownsRow base e size v n cs) (hb : ∀ b, b ∈ vblk v → base' ≤ b) : w.ownsRow base' e size v n cs := by
  obtain ⟨h1, h2⟩ := h
  refine ⟨h1, h2.imp id ?_⟩
  rintro ⟨g, cap, cur, rfl, hg, r⟩
  exact ⟨g, cap, cur, rfl, hb g (by simp [vblk_some]), r⟩
theorem own_vlt {w : World} {base n size : Nat} {e : TypeId} {v : Value} {cs : List Value} (h : w.ownsRow base e size v n cs) : ∀ b, b ∈ vblk v → base ≤ b ∧ b < w.heap.size := fun b hb => h.lt b (mem_vblk.1 hb)
theorem mid_of {wa wX : World} {g : Nat} {k : Int} {s : List Sp} {n : Nat} {cs : List Value} {vS vK : Value} {lS lK : Nat} (hl : s.length ≤ maxN) (hB : Blk wX g #[.int .i64 k, vS, vK] TRx) (hS : wX.ownsRow lS TSp 2 vS s.length (spcs s)) (hK : wX.ownsRow lK TRx 3 vK n cs)
    (hb : Below wa.heap.size wa wX) (gl : wa.heap.size ≤ g) (bS : ∀ b, b ∈ vblk vS → wa.heap.size ≤ b ∧ b ≠ g) (bK : ∀ b, b ∈ vblk vK → wa.heap.size ≤ b ∧ b ≠ g) (dj : ∀ b, b ∈ vblk vS → b ∈ vblk vK → False) : CopyMidP wa k s n cs (.pointer (some ⟨g, 0, none⟩)) wX :=
  ⟨g, vS, vK, rfl, hB, ⟨own_re hS fun b h => (bS b h).1, hl⟩, own_re hK fun b h => (bK b h).1, hb, fun h => (bS g h).2 rfl, fun h => (bK g h).2 rfl, gl, dj⟩
theorem mid1 {wa wA wB : World} {k : Int} {s : List Sp} {n : Nat} {cs : List Value} {vS vK : Value} (hl : s.length ≤ maxN) (OS : wA.ownsRow wa.drew.heap.size TSp 2 vS s.length (spcs s)) (BS : Below wa.drew.heap.size wa.drew wA) (OK : wB.ownsRow wA.heap.size TRx 3 vK n cs) (BK : Below wA.heap.size wA wB) :
    CopyMidP wa k s n cs (.pointer (some ⟨wB.heap.size, 0, none⟩)) (wB.alloc (.cells #[.int .i64 k, vS, vK] TRx (0, 0))) := by
  have s1 : wa.heap.size ≤ wA.heap.size := BS.size
  have s2 := BK.size
  have e1 := own_vlt OS
  have e2 := own_vlt OK
  have e3 : ∀ b, b ∈ vblk vS → wa.heap.size ≤ b := fun b h => (e1 b h).1
  refine mid_of hl (blk_new _ _ _) (own_below (own_below OS BK) (below_alloc (Below.refl _ _) _)) (own_below OK (below_alloc (Below.refl _ _) _)) (below_alloc (below_then (below_drew (Below.refl wa.heap.size wa)) (below_then BS BK)) _) (by omega) (fun b h => ?_) (fun b h => ?_) (fun b h h' => ?_)
  · have := e1 b h; have := e3 b h; omega
  · have := e2 b h; omega
  · have := e1 b h; have := e2 b h'; omega
theorem mid2 {wa wA wB : World} {k : Int} {s : List Sp} {n : Nat} {cs : List Value} {vS vK : Value} (hl : s.length ≤ maxN) (OS : wA.ownsRow wa.drew.heap.size TSp 2 vS s.length (spcs s)) (BS : Below wa.drew.heap.size wa.drew wA) (OK : wB.ownsRow (wA.alloc Z0).heap.size TRx 3 vK n cs) (BK : Below (wA.alloc Z0).heap.size (wA.alloc Z0) wB) :
    CopyMidP wa k s n cs (.pointer (some ⟨wA.heap.size, 0, none⟩)) (((wB.setCell ⟨wA.heap.size, 0, none⟩ (.int .i64 k)).setCell ⟨wA.heap.size, 1, none⟩ vS).setCell ⟨wA.heap.size, 2, none⟩ vK) := by
  have s1 : wa.heap.size ≤ wA.heap.size := BS.size
  have s2 := BK.size
  have s3 : (wA.alloc Z0).heap.size = wA.heap.size + 1 := by simp
  have e1 := own_vlt OS
  have e2 := own_vlt OK
  have e3 : ∀ b, b ∈ vblk vS → wa.heap.size ≤ b := fun b h => (e1 b h).1
  have hZ : Blk wB wA.heap.size #[.int .i64 0, nilS, nilS] TRx := (blk_new wA _ _).below BK
  have far : ∀ b, b ≠ wA.heap.size → (((wB.setCell ⟨wA.heap.size, 0, none⟩ (.int .i64 k)).setCell ⟨wA.heap.size, 1, none⟩ vS).setCell ⟨wA.heap.size, 2, none⟩ vK).heap[b]? = wB.heap[b]? := fun b hb =>
    (Below.heap_setCell _ _ _ _ hb).trans ((Below.heap_setCell _ _ _ _ hb).trans (Below.heap_setCell _ _ _ _ hb))
  have OS2 := own_below (own_below OS (below_alloc (Below.refl _ _) Z0)) BK
  refine mid_of hl (by simpa using ((hZ.set 0 (.int .i64 k)).set 1 vS).set 2 vK) (own_move OS2 fun b h => far b ?_) (own_move OK fun b h => far b ?_)
    (below_set (below_set (below_set (below_then (below_drew (Below.refl wa.heap.size wa)) (below_then BS (below_then (below_alloc (Below.refl _ _) _) BK))) s1 _) s1 _) s1 _) s1 (fun b h => ?_) (fun b h => ?_) (fun b h h' => ?_)
  · have := e1 b (mem_vblk.2 h); omega
  · have := e2 b (mem_vblk.2 h); omega
  · have := e1 b h; have := e3 b h; omega
  · have := e2 b h; omega
  · have := e1 b h; have := e2 b h'; omega
theorem mid3 {wa wA wB : World} {k : Int} {s : List Sp} {n : Nat} {cs : List Value} {vS vK : Value} (hl : s.length ≤ maxN) (OS : wA.ownsRow (wa.alloc Z0).drew.heap.size TSp 2 vS s.length (spcs s)) (BS : Below (wa.alloc Z0).drew.heap.size (wa.alloc Z0).drew wA) (OK : wB.ownsRow wA.heap.size TRx 3 vK n cs) (BK : Below wA.heap.size wA wB) :
    CopyMidP wa k s n cs (.pointer (some ⟨wa.heap.size, 0, none⟩)) (((wB.setCell ⟨wa.heap.size, 0, none⟩ (.int .i64 k)).setCell ⟨wa.heap.size, 1, none⟩ vS).setCell ⟨wa.heap.size, 2, none⟩ vK) := by
  have s0 : (wa.alloc Z0).drew.heap.size = wa.heap.size + 1 := by simp
  have s1 := BS.size
  have s2 := BK.size
  have e1 := own_vlt OS
  have e2 := own_vlt OK
  have hZ : Blk wB wa.heap.size #[.int .i64 0, nilS, nilS] TRx := ((show Blk (wa.alloc Z0).drew wa.heap.size #[.int .i64 0, nilS, nilS] TRx from ⟨(blk_new wa _ _).eq⟩).below BS).below BK
  have far : ∀ b, b ≠ wa.heap.size → (((wB.setCell ⟨wa.heap.size, 0, none⟩ (.int .i64 k)).setCell ⟨wa.heap.size, 1, none⟩ vS).setCell ⟨wa.heap.size, 2, none⟩ vK).heap[b]? = wB.heap[b]? := fun b hb =>
    (Below.heap_setCell _ _ _ _ hb).trans ((Below.heap_setCell _ _ _ _ hb).trans (Below.heap_setCell _ _ _ _ hb))
  refine mid_of hl (by simpa using ((hZ.set 0 (.int .i64 k)).set 1 vS).set 2 vK) (own_move (own_below OS BK) fun b h => far b ?_) (own_move OK fun b h => far b ?_)
    (below_set (below_set (below_set (below_then (below_drew (below_alloc (Below.refl wa.heap.size wa) Z0)) (below_then BS BK)) (Nat.le_refl _) _) (Nat.le_refl _) _) (Nat.le_refl _) _) (Nat.le_refl _) (fun b h => ?_) (fun b h => ?_) (fun b h h' => ?_)
  · have := e1 b (mem_vblk.2 h); omega
  · have := e2 b (mem_vblk.2 h); omega
  · have := e1 b h; omega
  · have := e2 b h; omega
  · have := e1 b h; have := e2 b h'; omega

theorem three_one (k : Int) (A K : Option Addr) (n m c d : Nat) : ∀ u ∈ [Value.int .i64 k, .slice A n c, .slice K m d], u.oneCell' = true := by
  intro u hu
  simp at hu
  rcases hu with rfl | rfl | rfl <;> rfl
theorem copy_fin {w wa wr w5 : World} {k : Int} {s : List Sp} {ks : List Rex} {vS vK : Value} {fk : List Nat} {L : List KInfo} (hz : w.heap.size + 1 < wa.heap.size) (HB : Below w.heap.size w wa) (HOS : OwnSp wr wa.heap.size vS s) (HOK : OwnK wr fk ks vK L) (HBE : Below wa.heap.size wa wr)
    (HFK : ∀ b, b ∈ fk → wa.heap.size ≤ b ∧ b ∉ vblk vS) (HG : wr.grownBy w5 (some (w.heap.size + 1))) : CopyPost k s ks w (.returned (.agg #[.int .i64 k, vS, vK])) w5 := by
  have hfr : ∀ b, b < wr.heap.size → b ≠ w.heap.size + 1 → w5.heap[b]? = wr.heap[b]? := fun b hb hne => HG.block b hb fun e => by injection e with e; exact hne e
  have nd : (vblk vS ++ fk).Nodup := by
    refine List.nodup_append.2 ⟨?_, HOK.nd, fun a ha b hb e => (HFK b hb).2 (e ▸ ha)⟩
    unfold vblk; split <;> simp
  have hlo : ∀ b, b ∈ vblk vS ++ fk → wa.heap.size ≤ b := fun b hb => by
    rcases List.mem_append.1 hb with hb | hb
    · exact (HOS.lt b hb).1
    · exact (HFK b hb).1
  refine ⟨vS, vK, vblk vS ++ fk, rfl, ?_, nd, fun b hb => by have := hlo b hb; omega, (below_then HB HBE).grown HG (Nat.le_trans HB.size HBE.size) (fun q hq => by injection hq with hq; omega)⟩
  refine (OwnT.of (k := k) (HOS.lower (Nat.zero_le _)) HOK nd).stay fun b hb => ?_
  have hT := (OwnT.of (k := k) (HOS.lower (Nat.zero_le _)) HOK nd).lt b hb
  exact hfr b hT (by have := hlo b hb; omega)

theorem splice_set (cur : Array Value) (j : Nat) (a b c : Value) (h : j * 3 + 3 ≤ cur.size) :
    ((cur.setIfInBounds (j * 3) a).setIfInBounds (j * 3 + 1) b).setIfInBounds (j * 3 + 2) c = (cur.toList.take (j * 3) ++ [a, b, c] ++ cur.toList.drop (j * 3 + 3)).toArray := by
  obtain ⟨l⟩ := cur
  simp only [List.setIfInBounds_toArray, List.size_toArray] at h ⊢
  congr 1
  apply List.ext_getElem?
  intro t
  have hl : (l.take (j * 3)).length = j * 3 := by rw [List.length_take]; omega
  rw [List.getElem?_set, List.getElem?_set, List.getElem?_set, List.append_assoc]
  simp only [List.length_set]
  by_cases h0 : t < j * 3
  · rw [if_neg (by omega), if_neg (by omega), if_neg (by omega), List.getElem?_append_left (by omega), List.getElem?_take, if_pos h0]
  · rw [List.getElem?_append_right (by omega), hl]
    by_cases h1 : t < j * 3 + 3
    · obtain ⟨d, rfl⟩ : ∃ d, t = j * 3 + d := ⟨t - j * 3, by omega⟩
      rw [show j * 3 + d - j * 3 = d by omega]
      match d, (show d < 3 by omega) with
      | 0, _ => rw [if_neg (by omega), if_neg (by omega), if_pos (by omega), if_pos (by omega)]; rfl
      | 1, _ => rw [if_neg (by omega), if_pos rfl, if_pos (by omega)]; rfl
      | 2, _ => rw [if_pos rfl, if_pos (by omega)]; rfl
    · rw [if_neg (by omega), if_neg (by omega), if_neg (by omega), List.getElem?_append_right (by simp; omega), List.getElem?_drop]
      congr 1
      simp
      omega
theorem splice_ge (l : List Value) (a b c : Value) (j t : Nat) (h : j * 3 + 3 ≤ l.length) (ht : (j + 1) * 3 ≤ t) : (l.take (j * 3) ++ [a, b, c] ++ l.drop (j * 3 + 3)).toArray[t]? = l[t]? := by
  have hl : (l.take (j * 3) ++ [a, b, c]).length = j * 3 + 3 := by simp only [List.length_append, List.length_take, List.length_cons, List.length_nil]; omega
  rw [List.getElem?_toArray, List.getElem?_append_right (by omega), hl, List.getElem?_drop]
  congr 1
  omega
theorem copy_round {wr wD : World} {gK lo cap j n : Nat} {cur : Array Value} {ks : List Rex} {L : List KInfo} {r : Rex} {fp : List Nat} {v1 v2 : Value} {cs : List Value} (HX : KPart wr gK lo cap cur ks j L) (HR : ks[j]? = some r) (b2 : Below wr.heap.size wr wD) (HO : OwnT wD fp r v1 v2) (HF : ∀ b, b ∈ fp → wr.heap.size ≤ b) (HN : fp.Nodup)
    (hlo : lo ≤ wr.heap.size) (HT : ∀ t, j * 3 ≤ t → t < ks.length * 3 → cur[t]? = cs[t]?) :
    ∃ cur', KPart (((wD.setCell ⟨gK, j * 3, none⟩ (.int .i64 r.kind)).setCell ⟨gK, j * 3 + 1, none⟩ v1).setCell ⟨gK, j * 3 + 2, none⟩ v2) gK lo cap cur' ks (j + 1) (L ++ [⟨fp, v1, v2⟩]) ∧ ∀ t, (j + 1) * 3 ≤ t → t < ks.length * 3 → cur'[t]? = cs[t]? := by
  have hj := (List.getElem?_eq_some_iff.1 HR).1
  have hsz := HX.size
  have hcn := HX.capn
  have hX5 : Blk (((wD.setCell ⟨gK, j * 3, none⟩ (.int .i64 r.kind)).setCell ⟨gK, j * 3 + 1, none⟩ v1).setCell ⟨gK, j * 3 + 2, none⟩ v2) gK (cur.toList.take (j * 3) ++ [.int .i64 r.kind, v1, v2] ++ cur.toList.drop (j * 3 + 3)).toArray TRx := by
    rw [← splice_set cur j _ _ _ (by omega)]
    exact (((HX.blk.below b2).set _ _).set _ _).set _ _
  refine ⟨_, HX.snoc HR b2 HO HF HN hX5 (grown_set (grown_set (grown_set (grown_refl _ _) _ _) _ _) _ _) hlo, fun t h1 h2 => ?_⟩
  rw [splice_ge _ _ _ _ _ _ (by rw [Array.length_toList]; omega) h1, Array.getElem?_toList]
  exact HT t (by omega) h2

end Go.Proofs.Ytplhbjpkkhhilaa
