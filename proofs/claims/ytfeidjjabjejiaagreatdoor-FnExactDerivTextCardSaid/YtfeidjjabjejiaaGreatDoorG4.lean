/- Texts joined for the claims: T9 T10 T2 Cp. -/
import Derived.Test.YtfeidjjabjejiaaGreatDoorG3
import Derived.Test.YtfeidjjabjejiaaGreatDoorG2
/- RexOk, RexMany, of the program and of the reference. -/
namespace Go.Proofs.YtfeidjjabjejiaaGreatDoor
set_option linter.unusedSimpArgs false
set_option linter.unusedVariables false
set_option maxRecDepth 100000
open Go.RowKit


theorem rexOk_no1 {r : Rex} (h : formed 8 r = false) : rexOk r = false := by rw [rexOk, h]; rfl
theorem rexOk_of {r : Rex} (h : formed 8 r = true) : rexOk r = decide (r.many ≤ 24) := by rw [rexOk, h]; rfl
theorem dec_le (n : Nat) : decide ((n : Int) ≤ 24) = decide (n ≤ 24) := by
  by_cases h : n ≤ 24
  · rw [decide_eq_true h, decide_eq_true (by omega)]
  · rw [decide_eq_false h, decide_eq_false (by omega)]

set_option maxHeartbeats 1000000 in
theorem iRexOk_c (r : Rex) (v1 v2 : Value) (w : World) (lo : Nat) (h : RexV w lo r (.int .i64 r.kind) v1 v2) (hsz : r.size ≤ 1048576) :
    Calls Tryz.prog 18 #[.agg #[.int .i64 r.kind, v1, v2]] w fun e w' => e = .returned (.bool (rexOk r)) ∧ Below w.heap.size w w' := by
  obtain ⟨A, c, K, ck, _, rfl, rfl, hs, hk⟩ := h.parts
  obtain ⟨wa, hwa⟩ : ∃ x, x = w.alloc (.cells #[.int .i64 r.kind, .slice A r.set.length c, .slice K r.kids.length ck] 26) := ⟨_, rfl⟩
  have hb : Below w.heap.size w wa := by rw [hwa]; exact below_alloc (Below.refl _ _) _
  have m0 : Blk wa w.heap.size #[.int .i64 r.kind, .slice A r.set.length c, .slice K r.kids.length ck] 26 := by rw [hwa]; exact blk_new w _ _
  have HV := Lib.hid (h.under hb)
  have HB := Lib.hid hb
  have M0 := Lib.hid m0
  clear hb m0 hs hk h
  have N0 : ∀ x : BW wa, x.w1.cell? ⟨w.heap.size, 0, none⟩ = some (.int .i64 r.kind) := fun x => by rw [(M0.out.below x.up).cell]; rfl
  have N1 : ∀ x : BW wa, x.w1.cell? ⟨w.heap.size, 1, none⟩ = some (.slice A r.set.length c) := fun x => by rw [(M0.out.below x.up).cell]; rfl
  have N2 : ∀ x : BW wa, x.w1.cell? ⟨w.heap.size, 2, none⟩ = some (.slice K r.kids.length ck) := fun x => by rw [(M0.out.below x.up).cell]; rfl
  go_enter Tryz.func18, Tryz.ntmps18
  go_wp2_with fail
  rw [← hwa]
  clear hwa
  refine (iForm_c _ 8 _ _ _ _ (by omega) HV.out).mono ?_
  rintro e w1 ⟨rfl, b1⟩
  have Hw1 : Hid (Below wa.heap.size wa w1) := b1
  have n0 := N0 ⟨w1, b1⟩
  have n1 := N1 ⟨w1, b1⟩
  have n2 := N2 ⟨w1, b1⟩
  dsimp only at n0 n1 n2
  clear N0 N1 N2 b1
  by_cases hf : formed 8 r = true
  · have HF := Lib.hid hf
    rw [hf]
    clear hf
    go_wp2_with fail
    refine (iMany_c _ _ _ _ _ (HV.out.under Hw1.out) hsz).mono ?_
    rintro e w2 ⟨rfl, b2⟩
    clear n0 n1 n2
    go_wp2
    go_ret
    exact ⟨ret_bool (by rw [rexOk_of HF.out]; simp only [dec_le]), below_then HB.out (below_then Hw1.out b2)⟩
  · have HF : Hid (formed 8 r = false) := by show _ = _; simpa using hf
    rw [HF.out]
    clear hf
    go_wp2
    go_ret
    exact ⟨ret_bool (rexOk_no1 HF.out).symm, below_then HB.out Hw1.out⟩
set_option maxHeartbeats 1000000 in
theorem sRexOk_c (r : Rex) (v1 v2 : Value) (w : World) (lo : Nat) (h : RexV w lo r (.int .i64 r.kind) v1 v2) (hsz : r.size ≤ 1048576) :
    Calls Tryz.prog 34 #[.agg #[.int .i64 r.kind, v1, v2]] w fun e w' => e = .returned (.bool (rexOk r)) ∧ Below w.heap.size w w' := by
  obtain ⟨A, c, K, ck, _, rfl, rfl, hs, hk⟩ := h.parts
  obtain ⟨wa, hwa⟩ : ∃ x, x = w.alloc (.cells #[.int .i64 r.kind, .slice A r.set.length c, .slice K r.kids.length ck] 26) := ⟨_, rfl⟩
  have hb : Below w.heap.size w wa := by rw [hwa]; exact below_alloc (Below.refl _ _) _
  have m0 : Blk wa w.heap.size #[.int .i64 r.kind, .slice A r.set.length c, .slice K r.kids.length ck] 26 := by rw [hwa]; exact blk_new w _ _
  have HV := Lib.hid (h.under hb)
  have HB := Lib.hid hb
  have M0 := Lib.hid m0
  clear hb m0 hs hk h
  have N0 : ∀ x : BW wa, x.w1.cell? ⟨w.heap.size, 0, none⟩ = some (.int .i64 r.kind) := fun x => by rw [(M0.out.below x.up).cell]; rfl
  have N1 : ∀ x : BW wa, x.w1.cell? ⟨w.heap.size, 1, none⟩ = some (.slice A r.set.length c) := fun x => by rw [(M0.out.below x.up).cell]; rfl
  have N2 : ∀ x : BW wa, x.w1.cell? ⟨w.heap.size, 2, none⟩ = some (.slice K r.kids.length ck) := fun x => by rw [(M0.out.below x.up).cell]; rfl
  go_enter Tryz.func34, Tryz.ntmps34
  go_wp2_with fail
  rw [← hwa]
  clear hwa
  refine (sForm_c _ 8 _ _ _ _ (by omega) HV.out).mono ?_
  rintro e w1 ⟨rfl, b1⟩
  have Hw1 : Hid (Below wa.heap.size wa w1) := b1
  have n0 := N0 ⟨w1, b1⟩
  have n1 := N1 ⟨w1, b1⟩
  have n2 := N2 ⟨w1, b1⟩
  dsimp only at n0 n1 n2
  clear N0 N1 N2 b1
  by_cases hf : formed 8 r = true
  · have HF := Lib.hid hf
    rw [hf]
    clear hf
    go_wp2_with fail
    refine (sMany_c _ 8 _ _ _ _ (by omega) (HV.out.under Hw1.out) hsz).mono ?_
    rintro e w2 ⟨rfl, b2⟩
    clear n0 n1 n2
    go_wp2
    go_ret
    exact ⟨ret_bool (by rw [rexOk_of HF.out]; simp only [dec_le]; rw [formed_many 8 r HF.out]), below_then HB.out (below_then Hw1.out b2)⟩
  · have HF : Hid (formed 8 r = false) := by show _ = _; simpa using hf
    rw [HF.out]
    clear hf
    go_wp2
    go_ret
    exact ⟨ret_bool (rexOk_no1 HF.out).symm, below_then HB.out Hw1.out⟩

def rexMany (r : Rex) : Int := if rexOk r then r.many else 0
theorem rexMany_ok {r : Rex} (h : rexOk r = true) : rexMany r = r.many := by rw [rexMany, h]; rfl
theorem rexMany_no {r : Rex} (h : rexOk r = false) : rexMany r = 0 := by rw [rexMany, h]; rfl
theorem rexOk_formed {r : Rex} (h : rexOk r = true) : formed 8 r = true := by rw [rexOk, Bool.and_eq_true] at h; exact h.1
set_option maxHeartbeats 1000000 in
theorem iRexMany_c (r : Rex) (v1 v2 : Value) (w : World) (lo : Nat) (h : RexV w lo r (.int .i64 r.kind) v1 v2) (hsz : r.size ≤ 1048576) :
    Calls Tryz.prog 37 #[.agg #[.int .i64 r.kind, v1, v2]] w fun e w' => e = .returned (.int .i64 (rexMany r)) ∧ Below w.heap.size w w' := by
  obtain ⟨A, c, K, ck, _, rfl, rfl, hs, hk⟩ := h.parts
  obtain ⟨wa, hwa⟩ : ∃ x, x = w.alloc (.cells #[.int .i64 r.kind, .slice A r.set.length c, .slice K r.kids.length ck] 26) := ⟨_, rfl⟩
  have hb : Below w.heap.size w wa := by rw [hwa]; exact below_alloc (Below.refl _ _) _
  have m0 : Blk wa w.heap.size #[.int .i64 r.kind, .slice A r.set.length c, .slice K r.kids.length ck] 26 := by rw [hwa]; exact blk_new w _ _
  have HV := Lib.hid (h.under hb)
  have HB := Lib.hid hb
  have M0 := Lib.hid m0
  clear hb m0 hs hk h
  have N0 : ∀ x : BW wa, x.w1.cell? ⟨w.heap.size, 0, none⟩ = some (.int .i64 r.kind) := fun x => by rw [(M0.out.below x.up).cell]; rfl
  have N1 : ∀ x : BW wa, x.w1.cell? ⟨w.heap.size, 1, none⟩ = some (.slice A r.set.length c) := fun x => by rw [(M0.out.below x.up).cell]; rfl
  have N2 : ∀ x : BW wa, x.w1.cell? ⟨w.heap.size, 2, none⟩ = some (.slice K r.kids.length ck) := fun x => by rw [(M0.out.below x.up).cell]; rfl
  go_enter Tryz.func37, Tryz.ntmps37
  go_wp2_with fail
  rw [← hwa]
  clear hwa
  refine (iRexOk_c _ _ _ _ _ HV.out hsz).mono ?_
  rintro e w1 ⟨rfl, b1⟩
  have Hw1 : Hid (Below wa.heap.size wa w1) := b1
  have n0 := N0 ⟨w1, b1⟩
  have n1 := N1 ⟨w1, b1⟩
  have n2 := N2 ⟨w1, b1⟩
  dsimp only at n0 n1 n2
  clear N0 N1 N2 b1
  by_cases hf : rexOk r = true
  · have HF := Lib.hid hf
    rw [hf]
    clear hf
    go_wp2_with fail
    refine (iMany_c _ _ _ _ _ (HV.out.under Hw1.out) hsz).mono ?_
    rintro e w2 ⟨rfl, b2⟩
    clear n0 n1 n2
    go_wp2
    go_ret
    exact ⟨ret_int (by rw [rexMany_ok HF.out]), below_then HB.out (below_then Hw1.out b2)⟩
  · have HF : Hid (rexOk r = false) := by show _ = _; simpa using hf
    rw [HF.out]
    clear hf
    go_wp2
    go_ret
    exact ⟨ret_int (rexMany_no HF.out).symm, below_then HB.out Hw1.out⟩
set_option maxHeartbeats 1000000 in
theorem sRexMany_c (r : Rex) (v1 v2 : Value) (w : World) (lo : Nat) (h : RexV w lo r (.int .i64 r.kind) v1 v2) (hsz : r.size ≤ 1048576) :
    Calls Tryz.prog 39 #[.agg #[.int .i64 r.kind, v1, v2]] w fun e w' => e = .returned (.int .i64 (rexMany r)) ∧ Below w.heap.size w w' := by
  obtain ⟨A, c, K, ck, _, rfl, rfl, hs, hk⟩ := h.parts
  obtain ⟨wa, hwa⟩ : ∃ x, x = w.alloc (.cells #[.int .i64 r.kind, .slice A r.set.length c, .slice K r.kids.length ck] 26) := ⟨_, rfl⟩
  have hb : Below w.heap.size w wa := by rw [hwa]; exact below_alloc (Below.refl _ _) _
  have m0 : Blk wa w.heap.size #[.int .i64 r.kind, .slice A r.set.length c, .slice K r.kids.length ck] 26 := by rw [hwa]; exact blk_new w _ _
  have HV := Lib.hid (h.under hb)
  have HB := Lib.hid hb
  have M0 := Lib.hid m0
  clear hb m0 hs hk h
  have N0 : ∀ x : BW wa, x.w1.cell? ⟨w.heap.size, 0, none⟩ = some (.int .i64 r.kind) := fun x => by rw [(M0.out.below x.up).cell]; rfl
  have N1 : ∀ x : BW wa, x.w1.cell? ⟨w.heap.size, 1, none⟩ = some (.slice A r.set.length c) := fun x => by rw [(M0.out.below x.up).cell]; rfl
  have N2 : ∀ x : BW wa, x.w1.cell? ⟨w.heap.size, 2, none⟩ = some (.slice K r.kids.length ck) := fun x => by rw [(M0.out.below x.up).cell]; rfl
  go_enter Tryz.func39, Tryz.ntmps39
  go_wp2_with fail
  rw [← hwa]
  clear hwa
  refine (sRexOk_c _ _ _ _ _ HV.out hsz).mono ?_
  rintro e w1 ⟨rfl, b1⟩
  have Hw1 : Hid (Below wa.heap.size wa w1) := b1
  have n0 := N0 ⟨w1, b1⟩
  have n1 := N1 ⟨w1, b1⟩
  have n2 := N2 ⟨w1, b1⟩
  dsimp only at n0 n1 n2
  clear N0 N1 N2 b1
  by_cases hf : rexOk r = true
  · have HF := Lib.hid hf
    rw [hf]
    clear hf
    go_wp2_with fail
    refine (sMany_c _ 8 _ _ _ _ (by omega) (HV.out.under Hw1.out) hsz).mono ?_
    rintro e w2 ⟨rfl, b2⟩
    clear n0 n1 n2
    go_wp2
    go_ret
    exact ⟨ret_int (by rw [rexMany_ok HF.out]; rw [formed_many 8 r (rexOk_formed HF.out)]), below_then HB.out (below_then Hw1.out b2)⟩
  · have HF : Hid (rexOk r = false) := by show _ = _; simpa using hf
    rw [HF.out]
    clear hf
    go_wp2
    go_ret
    exact ⟨ret_int (rexMany_no HF.out).symm, below_then HB.out Hw1.out⟩

end Go.Proofs.YtfeidjjabjejiaaGreatDoor

/- null, l2Null: whether the empty text is like a tree. -/
namespace Go.Proofs.YtfeidjjabjejiaaGreatDoor
set_option linter.unusedSimpArgs false
set_option linter.unusedVariables false
set_option maxRecDepth 100000
open Go.RowKit

theorem kidsOf_cases {k : Int} {n : Nat} (h : kidsOf k = n) : (k = 1 ∨ k = 2) ∧ n = 0 ∨ (k = 5 ∨ k = 7) ∧ n = 1 ∨ (k = 3 ∨ k = 4 ∨ k = 6) ∧ n = 2 := by
  unfold kidsOf at h
  split at h
  · left; omega
  · split at h
    · right; left; omega
    · split at h
      · right; right; omega
      · omega
theorem formed_node {d : Nat} {k : Int} {s : List Sp} {ks : List Rex} (h : formed d (.mk k s ks) = true) : kidsOf k = ks.length ∧ (k = 1 ∨ s = []) ∧ setOk s = true ∧ 0 < d ∧ ∀ r, r ∈ ks → formed (d - 1) r = true := by
  cases d with
  | zero => simp [formed] at h
  | succ d =>
    rw [formed, Bool.and_eq_true, List.all_eq_true] at h
    obtain ⟨h1, h2⟩ := h
    simp only [nodeOk, Rex.kind, Rex.set, Rex.kids, Bool.and_eq_true, Bool.or_eq_true, decide_eq_true_eq, List.isEmpty_iff] at h1
    exact ⟨of_decide_eq_true h1.1.1, h1.1.2.imp of_decide_eq_true id, h1.2, by omega, h2⟩
theorem formed_shape {d : Nat} {k : Int} {s : List Sp} {ks : List Rex} (h : formed d (.mk k s ks) = true) :
    (k = 1 ∨ k = 2) ∧ ks = [] ∨ (k = 5 ∨ k = 7) ∧ (∃ a, ks = [a] ∧ formed (d - 1) a = true) ∨ (k = 3 ∨ k = 4 ∨ k = 6) ∧ ∃ a b, ks = [a, b] ∧ formed (d - 1) a = true ∧ formed (d - 1) b = true := by
  obtain ⟨h1, _, _, _, h5⟩ := formed_node h
  rcases kidsOf_cases h1 with ⟨e, hn⟩ | ⟨e, hn⟩ | ⟨e, hn⟩
  · exact .inl ⟨e, List.length_eq_zero_iff.1 hn⟩
  · obtain ⟨a, rfl⟩ := List.length_eq_one_iff.1 hn
    exact .inr (.inl ⟨e, a, rfl, h5 a (by simp)⟩)
  · match ks, hn with
    | [a, b], _ => exact .inr (.inr ⟨e, a, b, rfl, h5 a (by simp), h5 b (by simp)⟩)
/-- the kids of one and of two -/
theorem Kids.one {w : World} {lo : Nat} {K : Option Addr} {ck : Nat} {x : Rex} (h : Kids w lo K ck [x]) :
    ∃ a v1 v2, K = some a ∧ RexV w lo x (.int .i64 x.kind) v1 v2 ∧ w.cell? a = some (.int .i64 x.kind) ∧ w.cell? ⟨a.block, a.off + 1, none⟩ = some v1 ∧ w.cell? ⟨a.block, a.off + 2, none⟩ = some v2 := by
  obtain ⟨a, r, v1, v2, e, HX, _, HV, c0, c1, c2⟩ := h.at_ 0 (by simp)
  obtain rfl : x = r := by simpa using HX.out
  rw [show a.add (0 * 3) = a by simp [Addr.add]] at c0 c1 c2
  exact ⟨a, v1, v2, e, HV.out, c0, c1, c2⟩
theorem Kids.two {w : World} {lo : Nat} {K : Option Addr} {ck : Nat} {x y : Rex} (h : Kids w lo K ck [x, y]) :
    ∃ a v1 v2 u1 u2, K = some a ∧ RexV w lo x (.int .i64 x.kind) v1 v2 ∧ w.cell? a = some (.int .i64 x.kind) ∧ w.cell? ⟨a.block, a.off + 1, none⟩ = some v1 ∧ w.cell? ⟨a.block, a.off + 2, none⟩ = some v2 ∧
      RexV w lo y (.int .i64 y.kind) u1 u2 ∧ w.cell? ⟨a.block, a.off + 3, none⟩ = some (.int .i64 y.kind) ∧ w.cell? ⟨a.block, a.off + 3 + 1, none⟩ = some u1 ∧ w.cell? ⟨a.block, a.off + 3 + 2, none⟩ = some u2 := by
  obtain ⟨a, r, v1, v2, e, HX, _, HV, c0, c1, c2⟩ := h.at_ 0 (by simp)
  obtain ⟨a', r', u1, u2, e', HX', _, HV', c0', c1', c2'⟩ := h.at_ 1 (by simp)
  obtain rfl : x = r := by simpa using HX.out
  obtain rfl : y = r' := by simpa using HX'.out
  obtain rfl : a = a' := by rw [e] at e'; exact Option.some.inj e'
  rw [show a.add (0 * 3) = a by simp [Addr.add]] at c0 c1 c2
  rw [show a.add (1 * 3) = ⟨a.block, a.off + 3, none⟩ by simp [Addr.add]] at c0' c1' c2'
  exact ⟨a, v1, v2, u1, u2, e, HV.out, c0, c1, c2, HV'.out, c0', c1', c2'⟩

def iNullOk (r : Rex) : Prop := ∀ (d : Nat) (v1 v2 : Value) (w : World) (lo : Nat), formed d r = true → RexV w lo r (.int .i64 r.kind) v1 v2 →
  Calls Tryz.prog 105 #[.agg #[.int .i64 r.kind, v1, v2]] w fun e w' => e = .returned (.bool (null r)) ∧ Below w.heap.size w w'
set_option maxHeartbeats 2000000 in
theorem iNull_c (r : Rex) : iNullOk r := by
  refine Rex.ind (p := iNullOk) (fun k s ks ih => ?_) r
  intro d v1 v2 w lo hd h
  obtain ⟨A, c, K, ck, _, rfl, rfl, hs, hk⟩ := h.parts
  dsimp only [Rex.kind, Rex.set, Rex.kids] at hs hk ⊢
  clear h
  rcases formed_shape hd with ⟨e, rfl⟩ | ⟨e, a, rfl, ha⟩ | ⟨e, a, b, rfl, ha, hb⟩
  · clear hd
    simp only [List.length_nil]
    rcases e with rfl | rfl
    · go_enter Tryz.func105, Tryz.ntmps105
      go_wp2
      go_ret
      exact ⟨rfl, below_alloc (Below.refl _ _) _⟩
    · go_enter Tryz.func105, Tryz.ntmps105
      go_wp2
      go_ret
      exact ⟨rfl, below_alloc (Below.refl _ _) _⟩
  · clear hd
    simp only [List.length_cons, List.length_nil, Nat.zero_add]
    rcases e with rfl | rfl
    · go_enter Tryz.func105, Tryz.ntmps105
      go_wp2
      go_ret
      exact ⟨rfl, below_alloc (Below.refl _ _) _⟩
    · obtain ⟨wa, hwa⟩ : ∃ x, x = w.alloc (.cells #[.int .i64 7, .slice A s.length c, .slice K 1 ck] 26) := ⟨_, rfl⟩
      have hb : Below w.heap.size w wa := by rw [hwa]; exact below_alloc (Below.refl _ _) _
      have m0 : Blk wa w.heap.size #[.int .i64 7, .slice A s.length c, .slice K 1 ck] 26 := by rw [hwa]; exact blk_new w _ _
      have HS := Lib.hid (hs.below hb)
      have HK := Lib.hid (hk.below hb)
      have HB := Lib.hid hb
      have M0 := Lib.hid m0
      clear hb m0 hs hk
      replace hwa := hwa.symm
      have N0 : ∀ x : BW wa, x.w1.cell? ⟨w.heap.size, 0, none⟩ = some (.int .i64 7) := fun x => by rw [(M0.out.below x.up).cell]; rfl
      have N1 : ∀ x : BW wa, x.w1.cell? ⟨w.heap.size, 1, none⟩ = some (.slice A s.length c) := fun x => by rw [(M0.out.below x.up).cell]; rfl
      have N2 : ∀ x : BW wa, x.w1.cell? ⟨w.heap.size, 2, none⟩ = some (.slice K 1 ck) := fun x => by rw [(M0.out.below x.up).cell]; rfl
      have n0 := N0 ⟨wa, Below.refl _ _⟩
      have n1 := N1 ⟨wa, Below.refl _ _⟩
      have n2 := N2 ⟨wa, Below.refl _ _⟩
      dsimp only at n0 n1 n2
      clear N0 N1 N2
      obtain ⟨a', x1, x2, rfl, hv, c0, c1, c2⟩ := HK.out.one
      have HV := Lib.hid hv
      clear hv
      go_enter Tryz.func105, Tryz.ntmps105
      go_wp2_with fail
      clear hwa
      refine (ih a (by simp) _ _ _ _ _ ha HV.out).mono ?_
      rintro e w1 ⟨rfl, b1⟩
      clear n0 n1 n2 c0 c1 c2
      go_wp2
      go_ret
      exact ⟨ret_bool (by simp [null, nullAt]), below_then HB.out b1⟩
  · clear hd
    simp only [List.length_cons, List.length_nil, Nat.zero_add, Nat.reduceAdd]
    rcases e with rfl | rfl | rfl
    · obtain ⟨wa, hwa⟩ : ∃ x, x = w.alloc (.cells #[.int .i64 3, .slice A s.length c, .slice K 2 ck] 26) := ⟨_, rfl⟩
      have hb : Below w.heap.size w wa := by rw [hwa]; exact below_alloc (Below.refl _ _) _
      have m0 : Blk wa w.heap.size #[.int .i64 3, .slice A s.length c, .slice K 2 ck] 26 := by rw [hwa]; exact blk_new w _ _
      have HS := Lib.hid (hs.below hb)
      have HK := Lib.hid (hk.below hb)
      have HB := Lib.hid hb
      have M0 := Lib.hid m0
      clear hb m0 hs hk
      replace hwa := hwa.symm
      have N0 : ∀ x : BW wa, x.w1.cell? ⟨w.heap.size, 0, none⟩ = some (.int .i64 3) := fun x => by rw [(M0.out.below x.up).cell]; rfl
      have N1 : ∀ x : BW wa, x.w1.cell? ⟨w.heap.size, 1, none⟩ = some (.slice A s.length c) := fun x => by rw [(M0.out.below x.up).cell]; rfl
      have N2 : ∀ x : BW wa, x.w1.cell? ⟨w.heap.size, 2, none⟩ = some (.slice K 2 ck) := fun x => by rw [(M0.out.below x.up).cell]; rfl
      have n0 := N0 ⟨wa, Below.refl _ _⟩
      have n1 := N1 ⟨wa, Below.refl _ _⟩
      have n2 := N2 ⟨wa, Below.refl _ _⟩
      dsimp only at n0 n1 n2
      clear N0 N1 N2
      obtain ⟨a', x1, x2, y1, y2, rfl, hv, c0, c1, c2, hv', d0, d1, d2⟩ := HK.out.two
      have HV := Lib.hid hv
      have HV' := Lib.hid hv'
      clear hv hv'
      have C3 : ∀ w' : World, Below wa.heap.size wa w' → w'.cell? ⟨a'.block, a'.off + 3, none⟩ = some (.int .i64 b.kind) ∧ w'.cell? ⟨a'.block, a'.off + 3 + 1, none⟩ = some y1 ∧ w'.cell? ⟨a'.block, a'.off + 3 + 2, none⟩ = some y2 := fun w' hb =>
        ⟨(BW.cell ⟨w', hb⟩ d0 :), (BW.cell ⟨w', hb⟩ d1 :), (BW.cell ⟨w', hb⟩ d2 :)⟩
      have HC := Lib.hid C3
      clear C3
      go_enter Tryz.func105, Tryz.ntmps105
      go_wp2_with fail
      clear hwa
      refine (ih a (by simp) _ _ _ _ _ ha HV.out).mono ?_
      rintro e w1 ⟨rfl, b1⟩
      have H1 := Lib.hid b1
      obtain ⟨z0, z1, z2⟩ := HC.out w1 b1
      clear n0 n1 n2 c0 c1 c2 d0 d1 d2
      have n2 : w1.cell? ⟨w.heap.size, 2, none⟩ = some (.slice (some a') 2 ck) := by rw [(M0.out.below b1).cell]; rfl
      clear b1
      by_cases hn : null a = true
      · have HN := Lib.hid hn
        rw [hn]
        clear hn
        go_wp2_with fail
        refine (ih b (by simp) _ _ _ _ _ hb (HV'.out.under H1.out)).mono ?_
        rintro e w2 ⟨rfl, b2⟩
        clear n2 z0 z1 z2
        go_wp2
        go_ret
        exact ⟨ret_bool (by simp [null, nullAt, HN.out]), below_then HB.out (below_then H1.out b2)⟩
      · have HN : Hid (null a = !true) := by show _ = _; simpa using hn
        rw [HN.out]
        clear hn
        go_wp2
        go_ret
        exact ⟨ret_bool (by simp [null, nullAt, HN.out]), below_then HB.out H1.out⟩
    · obtain ⟨wa, hwa⟩ : ∃ x, x = w.alloc (.cells #[.int .i64 4, .slice A s.length c, .slice K 2 ck] 26) := ⟨_, rfl⟩
      have hb : Below w.heap.size w wa := by rw [hwa]; exact below_alloc (Below.refl _ _) _
      have m0 : Blk wa w.heap.size #[.int .i64 4, .slice A s.length c, .slice K 2 ck] 26 := by rw [hwa]; exact blk_new w _ _
      have HS := Lib.hid (hs.below hb)
      have HK := Lib.hid (hk.below hb)
      have HB := Lib.hid hb
      have M0 := Lib.hid m0
      clear hb m0 hs hk
      replace hwa := hwa.symm
      have N0 : ∀ x : BW wa, x.w1.cell? ⟨w.heap.size, 0, none⟩ = some (.int .i64 4) := fun x => by rw [(M0.out.below x.up).cell]; rfl
      have N1 : ∀ x : BW wa, x.w1.cell? ⟨w.heap.size, 1, none⟩ = some (.slice A s.length c) := fun x => by rw [(M0.out.below x.up).cell]; rfl
      have N2 : ∀ x : BW wa, x.w1.cell? ⟨w.heap.size, 2, none⟩ = some (.slice K 2 ck) := fun x => by rw [(M0.out.below x.up).cell]; rfl
      have n0 := N0 ⟨wa, Below.refl _ _⟩
      have n1 := N1 ⟨wa, Below.refl _ _⟩
      have n2 := N2 ⟨wa, Below.refl _ _⟩
      dsimp only at n0 n1 n2
      clear N0 N1 N2
      obtain ⟨a', x1, x2, y1, y2, rfl, hv, c0, c1, c2, hv', d0, d1, d2⟩ := HK.out.two
      have HV := Lib.hid hv
      have HV' := Lib.hid hv'
      clear hv hv'
      have C3 : ∀ w' : World, Below wa.heap.size wa w' → w'.cell? ⟨a'.block, a'.off + 3, none⟩ = some (.int .i64 b.kind) ∧ w'.cell? ⟨a'.block, a'.off + 3 + 1, none⟩ = some y1 ∧ w'.cell? ⟨a'.block, a'.off + 3 + 2, none⟩ = some y2 := fun w' hb =>
        ⟨(BW.cell ⟨w', hb⟩ d0 :), (BW.cell ⟨w', hb⟩ d1 :), (BW.cell ⟨w', hb⟩ d2 :)⟩
      have HC := Lib.hid C3
      clear C3
      go_enter Tryz.func105, Tryz.ntmps105
      go_wp2_with fail
      clear hwa
      refine (ih a (by simp) _ _ _ _ _ ha HV.out).mono ?_
      rintro e w1 ⟨rfl, b1⟩
      have H1 := Lib.hid b1
      obtain ⟨z0, z1, z2⟩ := HC.out w1 b1
      clear n0 n1 n2 c0 c1 c2 d0 d1 d2
      have n2 : w1.cell? ⟨w.heap.size, 2, none⟩ = some (.slice (some a') 2 ck) := by rw [(M0.out.below b1).cell]; rfl
      clear b1
      by_cases hn : null a = false
      · have HN := Lib.hid hn
        rw [hn]
        clear hn
        go_wp2_with fail
        refine (ih b (by simp) _ _ _ _ _ hb (HV'.out.under H1.out)).mono ?_
        rintro e w2 ⟨rfl, b2⟩
        clear n2 z0 z1 z2
        go_wp2
        go_ret
        exact ⟨ret_bool (by simp [null, nullAt, HN.out]), below_then HB.out (below_then H1.out b2)⟩
      · have HN : Hid (null a = !false) := by show _ = _; simpa using hn
        rw [HN.out]
        clear hn
        go_wp2
        go_ret
        exact ⟨ret_bool (by simp [null, nullAt, HN.out]), below_then HB.out H1.out⟩
    · obtain ⟨wa, hwa⟩ : ∃ x, x = w.alloc (.cells #[.int .i64 6, .slice A s.length c, .slice K 2 ck] 26) := ⟨_, rfl⟩
      have hb : Below w.heap.size w wa := by rw [hwa]; exact below_alloc (Below.refl _ _) _
      have m0 : Blk wa w.heap.size #[.int .i64 6, .slice A s.length c, .slice K 2 ck] 26 := by rw [hwa]; exact blk_new w _ _
      have HS := Lib.hid (hs.below hb)
      have HK := Lib.hid (hk.below hb)
      have HB := Lib.hid hb
      have M0 := Lib.hid m0
      clear hb m0 hs hk
      replace hwa := hwa.symm
      have N0 : ∀ x : BW wa, x.w1.cell? ⟨w.heap.size, 0, none⟩ = some (.int .i64 6) := fun x => by rw [(M0.out.below x.up).cell]; rfl
      have N1 : ∀ x : BW wa, x.w1.cell? ⟨w.heap.size, 1, none⟩ = some (.slice A s.length c) := fun x => by rw [(M0.out.below x.up).cell]; rfl
      have N2 : ∀ x : BW wa, x.w1.cell? ⟨w.heap.size, 2, none⟩ = some (.slice K 2 ck) := fun x => by rw [(M0.out.below x.up).cell]; rfl
      have n0 := N0 ⟨wa, Below.refl _ _⟩
      have n1 := N1 ⟨wa, Below.refl _ _⟩
      have n2 := N2 ⟨wa, Below.refl _ _⟩
      dsimp only at n0 n1 n2
      clear N0 N1 N2
      obtain ⟨a', x1, x2, y1, y2, rfl, hv, c0, c1, c2, hv', d0, d1, d2⟩ := HK.out.two
      have HV := Lib.hid hv
      have HV' := Lib.hid hv'
      clear hv hv'
      have C3 : ∀ w' : World, Below wa.heap.size wa w' → w'.cell? ⟨a'.block, a'.off + 3, none⟩ = some (.int .i64 b.kind) ∧ w'.cell? ⟨a'.block, a'.off + 3 + 1, none⟩ = some y1 ∧ w'.cell? ⟨a'.block, a'.off + 3 + 2, none⟩ = some y2 := fun w' hb =>
        ⟨(BW.cell ⟨w', hb⟩ d0 :), (BW.cell ⟨w', hb⟩ d1 :), (BW.cell ⟨w', hb⟩ d2 :)⟩
      have HC := Lib.hid C3
      clear C3
      go_enter Tryz.func105, Tryz.ntmps105
      go_wp2_with fail
      clear hwa
      refine (ih a (by simp) _ _ _ _ _ ha HV.out).mono ?_
      rintro e w1 ⟨rfl, b1⟩
      have H1 := Lib.hid b1
      obtain ⟨z0, z1, z2⟩ := HC.out w1 b1
      clear n0 n1 n2 c0 c1 c2 d0 d1 d2
      have n2 : w1.cell? ⟨w.heap.size, 2, none⟩ = some (.slice (some a') 2 ck) := by rw [(M0.out.below b1).cell]; rfl
      clear b1
      by_cases hn : null a = true
      · have HN := Lib.hid hn
        rw [hn]
        clear hn
        go_wp2_with fail
        refine (ih b (by simp) _ _ _ _ _ hb (HV'.out.under H1.out)).mono ?_
        rintro e w2 ⟨rfl, b2⟩
        clear n2 z0 z1 z2
        go_wp2
        go_ret
        exact ⟨ret_bool (by simp [null, nullAt, HN.out]), below_then HB.out (below_then H1.out b2)⟩
      · have HN : Hid (null a = !true) := by show _ = _; simpa using hn
        rw [HN.out]
        clear hn
        go_wp2
        go_ret
        exact ⟨ret_bool (by simp [null, nullAt, HN.out]), below_then HB.out H1.out⟩
def sNullOk (r : Rex) : Prop := ∀ (d : Nat) (v1 v2 : Value) (w : World) (lo : Nat), formed d r = true → RexV w lo r (.int .i64 r.kind) v1 v2 →
  Calls Tryz.prog 112 #[.agg #[.int .i64 r.kind, v1, v2]] w fun e w' => e = .returned (.bool (null r)) ∧ Below w.heap.size w w'
set_option maxHeartbeats 2000000 in
theorem sNull_c (r : Rex) : sNullOk r := by
  refine Rex.ind (p := sNullOk) (fun k s ks ih => ?_) r
  intro d v1 v2 w lo hd h
  obtain ⟨A, c, K, ck, _, rfl, rfl, hs, hk⟩ := h.parts
  dsimp only [Rex.kind, Rex.set, Rex.kids] at hs hk ⊢
  clear h
  rcases formed_shape hd with ⟨e, rfl⟩ | ⟨e, a, rfl, ha⟩ | ⟨e, a, b, rfl, ha, hb⟩
  · clear hd
    simp only [List.length_nil]
    rcases e with rfl | rfl
    · go_enter Tryz.func112, Tryz.ntmps112
      go_wp2
      go_ret
      exact ⟨rfl, below_alloc (Below.refl _ _) _⟩
    · go_enter Tryz.func112, Tryz.ntmps112
      go_wp2
      go_ret
      exact ⟨rfl, below_alloc (Below.refl _ _) _⟩
  · clear hd
    simp only [List.length_cons, List.length_nil, Nat.zero_add]
    rcases e with rfl | rfl
    · go_enter Tryz.func112, Tryz.ntmps112
      go_wp2
      go_ret
      exact ⟨rfl, below_alloc (Below.refl _ _) _⟩
    · obtain ⟨wa, hwa⟩ : ∃ x, x = w.alloc (.cells #[.int .i64 7, .slice A s.length c, .slice K 1 ck] 26) := ⟨_, rfl⟩
      have hb : Below w.heap.size w wa := by rw [hwa]; exact below_alloc (Below.refl _ _) _
      have m0 : Blk wa w.heap.size #[.int .i64 7, .slice A s.length c, .slice K 1 ck] 26 := by rw [hwa]; exact blk_new w _ _
      have HS := Lib.hid (hs.below hb)
      have HK := Lib.hid (hk.below hb)
      have HB := Lib.hid hb
      have M0 := Lib.hid m0
      clear hb m0 hs hk
      replace hwa := hwa.symm
      have N0 : ∀ x : BW wa, x.w1.cell? ⟨w.heap.size, 0, none⟩ = some (.int .i64 7) := fun x => by rw [(M0.out.below x.up).cell]; rfl
      have N1 : ∀ x : BW wa, x.w1.cell? ⟨w.heap.size, 1, none⟩ = some (.slice A s.length c) := fun x => by rw [(M0.out.below x.up).cell]; rfl
      have N2 : ∀ x : BW wa, x.w1.cell? ⟨w.heap.size, 2, none⟩ = some (.slice K 1 ck) := fun x => by rw [(M0.out.below x.up).cell]; rfl
      have n0 := N0 ⟨wa, Below.refl _ _⟩
      have n1 := N1 ⟨wa, Below.refl _ _⟩
      have n2 := N2 ⟨wa, Below.refl _ _⟩
      dsimp only at n0 n1 n2
      clear N0 N1 N2
      obtain ⟨a', x1, x2, rfl, hv, c0, c1, c2⟩ := HK.out.one
      have HV := Lib.hid hv
      clear hv
      go_enter Tryz.func112, Tryz.ntmps112
      go_wp2_with fail
      clear hwa
      refine (ih a (by simp) _ _ _ _ _ ha HV.out).mono ?_
      rintro e w1 ⟨rfl, b1⟩
      clear n0 n1 n2 c0 c1 c2
      go_wp2
      go_ret
      exact ⟨ret_bool (by simp [null, nullAt]), below_then HB.out b1⟩
  · clear hd
    simp only [List.length_cons, List.length_nil, Nat.zero_add, Nat.reduceAdd]
    rcases e with rfl | rfl | rfl
    · obtain ⟨wa, hwa⟩ : ∃ x, x = w.alloc (.cells #[.int .i64 3, .slice A s.length c, .slice K 2 ck] 26) := ⟨_, rfl⟩
      have hb : Below w.heap.size w wa := by rw [hwa]; exact below_alloc (Below.refl _ _) _
      have m0 : Blk wa w.heap.size #[.int .i64 3, .slice A s.length c, .slice K 2 ck] 26 := by rw [hwa]; exact blk_new w _ _
      have HS := Lib.hid (hs.below hb)
      have HK := Lib.hid (hk.below hb)
      have HB := Lib.hid hb
      have M0 := Lib.hid m0
      clear hb m0 hs hk
      replace hwa := hwa.symm
      have N0 : ∀ x : BW wa, x.w1.cell? ⟨w.heap.size, 0, none⟩ = some (.int .i64 3) := fun x => by rw [(M0.out.below x.up).cell]; rfl
      have N1 : ∀ x : BW wa, x.w1.cell? ⟨w.heap.size, 1, none⟩ = some (.slice A s.length c) := fun x => by rw [(M0.out.below x.up).cell]; rfl
      have N2 : ∀ x : BW wa, x.w1.cell? ⟨w.heap.size, 2, none⟩ = some (.slice K 2 ck) := fun x => by rw [(M0.out.below x.up).cell]; rfl
      have n0 := N0 ⟨wa, Below.refl _ _⟩
      have n1 := N1 ⟨wa, Below.refl _ _⟩
      have n2 := N2 ⟨wa, Below.refl _ _⟩
      dsimp only at n0 n1 n2
      clear N0 N1 N2
      obtain ⟨a', x1, x2, y1, y2, rfl, hv, c0, c1, c2, hv', d0, d1, d2⟩ := HK.out.two
      have HV := Lib.hid hv
      have HV' := Lib.hid hv'
      clear hv hv'
      have C3 : ∀ w' : World, Below wa.heap.size wa w' → w'.cell? ⟨a'.block, a'.off + 3, none⟩ = some (.int .i64 b.kind) ∧ w'.cell? ⟨a'.block, a'.off + 3 + 1, none⟩ = some y1 ∧ w'.cell? ⟨a'.block, a'.off + 3 + 2, none⟩ = some y2 := fun w' hb =>
        ⟨(BW.cell ⟨w', hb⟩ d0 :), (BW.cell ⟨w', hb⟩ d1 :), (BW.cell ⟨w', hb⟩ d2 :)⟩
      have HC := Lib.hid C3
      clear C3
      go_enter Tryz.func112, Tryz.ntmps112
      go_wp2_with fail
      clear hwa
      refine (ih a (by simp) _ _ _ _ _ ha HV.out).mono ?_
      rintro e w1 ⟨rfl, b1⟩
      have H1 := Lib.hid b1
      obtain ⟨z0, z1, z2⟩ := HC.out w1 b1
      clear n0 n1 n2 c0 c1 c2 d0 d1 d2
      have n2 : w1.cell? ⟨w.heap.size, 2, none⟩ = some (.slice (some a') 2 ck) := by rw [(M0.out.below b1).cell]; rfl
      clear b1
      by_cases hn : null a = true
      · have HN := Lib.hid hn
        rw [hn]
        clear hn
        go_wp2_with fail
        refine (ih b (by simp) _ _ _ _ _ hb (HV'.out.under H1.out)).mono ?_
        rintro e w2 ⟨rfl, b2⟩
        clear n2 z0 z1 z2
        go_wp2
        go_ret
        exact ⟨ret_bool (by simp [null, nullAt, HN.out]), below_then HB.out (below_then H1.out b2)⟩
      · have HN : Hid (null a = !true) := by show _ = _; simpa using hn
        rw [HN.out]
        clear hn
        go_wp2
        go_ret
        exact ⟨ret_bool (by simp [null, nullAt, HN.out]), below_then HB.out H1.out⟩
    · obtain ⟨wa, hwa⟩ : ∃ x, x = w.alloc (.cells #[.int .i64 4, .slice A s.length c, .slice K 2 ck] 26) := ⟨_, rfl⟩
      have hb : Below w.heap.size w wa := by rw [hwa]; exact below_alloc (Below.refl _ _) _
      have m0 : Blk wa w.heap.size #[.int .i64 4, .slice A s.length c, .slice K 2 ck] 26 := by rw [hwa]; exact blk_new w _ _
      have HS := Lib.hid (hs.below hb)
      have HK := Lib.hid (hk.below hb)
      have HB := Lib.hid hb
      have M0 := Lib.hid m0
      clear hb m0 hs hk
      replace hwa := hwa.symm
      have N0 : ∀ x : BW wa, x.w1.cell? ⟨w.heap.size, 0, none⟩ = some (.int .i64 4) := fun x => by rw [(M0.out.below x.up).cell]; rfl
      have N1 : ∀ x : BW wa, x.w1.cell? ⟨w.heap.size, 1, none⟩ = some (.slice A s.length c) := fun x => by rw [(M0.out.below x.up).cell]; rfl
      have N2 : ∀ x : BW wa, x.w1.cell? ⟨w.heap.size, 2, none⟩ = some (.slice K 2 ck) := fun x => by rw [(M0.out.below x.up).cell]; rfl
      have n0 := N0 ⟨wa, Below.refl _ _⟩
      have n1 := N1 ⟨wa, Below.refl _ _⟩
      have n2 := N2 ⟨wa, Below.refl _ _⟩
      dsimp only at n0 n1 n2
      clear N0 N1 N2
      obtain ⟨a', x1, x2, y1, y2, rfl, hv, c0, c1, c2, hv', d0, d1, d2⟩ := HK.out.two
      have HV := Lib.hid hv
      have HV' := Lib.hid hv'
      clear hv hv'
      have C3 : ∀ w' : World, Below wa.heap.size wa w' → w'.cell? ⟨a'.block, a'.off + 3, none⟩ = some (.int .i64 b.kind) ∧ w'.cell? ⟨a'.block, a'.off + 3 + 1, none⟩ = some y1 ∧ w'.cell? ⟨a'.block, a'.off + 3 + 2, none⟩ = some y2 := fun w' hb =>
        ⟨(BW.cell ⟨w', hb⟩ d0 :), (BW.cell ⟨w', hb⟩ d1 :), (BW.cell ⟨w', hb⟩ d2 :)⟩
      have HC := Lib.hid C3
      clear C3
      go_enter Tryz.func112, Tryz.ntmps112
      go_wp2_with fail
      clear hwa
      refine (ih a (by simp) _ _ _ _ _ ha HV.out).mono ?_
      rintro e w1 ⟨rfl, b1⟩
      have H1 := Lib.hid b1
      obtain ⟨z0, z1, z2⟩ := HC.out w1 b1
      clear n0 n1 n2 c0 c1 c2 d0 d1 d2
      have n2 : w1.cell? ⟨w.heap.size, 2, none⟩ = some (.slice (some a') 2 ck) := by rw [(M0.out.below b1).cell]; rfl
      clear b1
      by_cases hn : null a = false
      · have HN := Lib.hid hn
        rw [hn]
        clear hn
        go_wp2_with fail
        refine (ih b (by simp) _ _ _ _ _ hb (HV'.out.under H1.out)).mono ?_
        rintro e w2 ⟨rfl, b2⟩
        clear n2 z0 z1 z2
        go_wp2
        go_ret
        exact ⟨ret_bool (by simp [null, nullAt, HN.out]), below_then HB.out (below_then H1.out b2)⟩
      · have HN : Hid (null a = !false) := by show _ = _; simpa using hn
        rw [HN.out]
        clear hn
        go_wp2
        go_ret
        exact ⟨ret_bool (by simp [null, nullAt, HN.out]), below_then HB.out H1.out⟩
    · obtain ⟨wa, hwa⟩ : ∃ x, x = w.alloc (.cells #[.int .i64 6, .slice A s.length c, .slice K 2 ck] 26) := ⟨_, rfl⟩
      have hb : Below w.heap.size w wa := by rw [hwa]; exact below_alloc (Below.refl _ _) _
      have m0 : Blk wa w.heap.size #[.int .i64 6, .slice A s.length c, .slice K 2 ck] 26 := by rw [hwa]; exact blk_new w _ _
      have HS := Lib.hid (hs.below hb)
      have HK := Lib.hid (hk.below hb)
      have HB := Lib.hid hb
      have M0 := Lib.hid m0
      clear hb m0 hs hk
      replace hwa := hwa.symm
      have N0 : ∀ x : BW wa, x.w1.cell? ⟨w.heap.size, 0, none⟩ = some (.int .i64 6) := fun x => by rw [(M0.out.below x.up).cell]; rfl
      have N1 : ∀ x : BW wa, x.w1.cell? ⟨w.heap.size, 1, none⟩ = some (.slice A s.length c) := fun x => by rw [(M0.out.below x.up).cell]; rfl
      have N2 : ∀ x : BW wa, x.w1.cell? ⟨w.heap.size, 2, none⟩ = some (.slice K 2 ck) := fun x => by rw [(M0.out.below x.up).cell]; rfl
      have n0 := N0 ⟨wa, Below.refl _ _⟩
      have n1 := N1 ⟨wa, Below.refl _ _⟩
      have n2 := N2 ⟨wa, Below.refl _ _⟩
      dsimp only at n0 n1 n2
      clear N0 N1 N2
      obtain ⟨a', x1, x2, y1, y2, rfl, hv, c0, c1, c2, hv', d0, d1, d2⟩ := HK.out.two
      have HV := Lib.hid hv
      have HV' := Lib.hid hv'
      clear hv hv'
      have C3 : ∀ w' : World, Below wa.heap.size wa w' → w'.cell? ⟨a'.block, a'.off + 3, none⟩ = some (.int .i64 b.kind) ∧ w'.cell? ⟨a'.block, a'.off + 3 + 1, none⟩ = some y1 ∧ w'.cell? ⟨a'.block, a'.off + 3 + 2, none⟩ = some y2 := fun w' hb =>
        ⟨(BW.cell ⟨w', hb⟩ d0 :), (BW.cell ⟨w', hb⟩ d1 :), (BW.cell ⟨w', hb⟩ d2 :)⟩
      have HC := Lib.hid C3
      clear C3
      go_enter Tryz.func112, Tryz.ntmps112
      go_wp2_with fail
      clear hwa
      refine (ih a (by simp) _ _ _ _ _ ha HV.out).mono ?_
      rintro e w1 ⟨rfl, b1⟩
      have H1 := Lib.hid b1
      obtain ⟨z0, z1, z2⟩ := HC.out w1 b1
      clear n0 n1 n2 c0 c1 c2 d0 d1 d2
      have n2 : w1.cell? ⟨w.heap.size, 2, none⟩ = some (.slice (some a') 2 ck) := by rw [(M0.out.below b1).cell]; rfl
      clear b1
      by_cases hn : null a = true
      · have HN := Lib.hid hn
        rw [hn]
        clear hn
        go_wp2_with fail
        refine (ih b (by simp) _ _ _ _ _ hb (HV'.out.under H1.out)).mono ?_
        rintro e w2 ⟨rfl, b2⟩
        clear n2 z0 z1 z2
        go_wp2
        go_ret
        exact ⟨ret_bool (by simp [null, nullAt, HN.out]), below_then HB.out (below_then H1.out b2)⟩
      · have HN : Hid (null a = !true) := by show _ = _; simpa using hn
        rw [HN.out]
        clear hn
        go_wp2
        go_ret
        exact ⟨ret_bool (by simp [null, nullAt, HN.out]), below_then HB.out H1.out⟩

end Go.Proofs.YtfeidjjabjejiaaGreatDoor

/- Copies of the laws' trees: toRex, toRexS. -/
namespace Go.Proofs.YtfeidjjabjejiaaGreatDoor
set_option linter.unusedSimpArgs false
set_option linter.unusedVariables false
set_option maxRecDepth 100000
open Go.RowKit

theorem infoRx : (Tryz.prog.info? TRx).map (fun i => (i.zero, i.size, i.bytes)) = some (some (.agg #[.int .i64 0, nilS, nilS]), 3, 56) := by kernel_rfl
theorem add0 (g j : Nat) : (⟨g, 0, none⟩ : Addr).add j = ⟨g, j, none⟩ := by unfold Addr.add; split <;> simp_all
theorem size_kid {ks : List Rex} {r : Rex} (h : r ∈ ks) : r.size ≤ sizeL ks := by
  induction ks with
  | nil => cases h
  | cons x xs ih =>
    rw [sizeL]
    rcases List.mem_cons.1 h with rfl | h
    · omega
    · have := ih h; omega

theorem sizeRx : (Tryz.prog.info? TRx).map (·.size) = some 3 := by kernel_rfl
theorem sizeRx' (a b c : Value) : (Tryz.prog.info? TRx).map (·.size) = some [a, b, c].length := sizeRx
theorem RexV.one {w : World} {lo : Nat} {r : Rex} {v0 v1 v2 : Value} (h : RexV w lo r v0 v1 v2) : ∀ u ∈ [v0, v1, v2], u.oneCell' = true := by
  obtain ⟨A, c, K, ck, rfl, rfl, rfl, _⟩ := h.parts
  intro u hu
  simp at hu
  rcases hu with rfl | rfl | rfl <;> rfl
theorem splice3 (l : List Value) (a b c : Value) (k : Nat) (h : k * 3 + 2 < l.length) :
    (l.take (k * 3) ++ [a, b, c] ++ l.drop (k * 3 + 3))[k * 3]? = some a ∧ (l.take (k * 3) ++ [a, b, c] ++ l.drop (k * 3 + 3))[k * 3 + 1]? = some b ∧ (l.take (k * 3) ++ [a, b, c] ++ l.drop (k * 3 + 3))[k * 3 + 2]? = some c ∧
      (∀ i, i < k * 3 → (l.take (k * 3) ++ [a, b, c] ++ l.drop (k * 3 + 3))[i]? = l[i]?) ∧ (l.take (k * 3) ++ [a, b, c] ++ l.drop (k * 3 + 3)).length = l.length := by
  have e : (l.take (k * 3)).length = k * 3 := by rw [List.length_take]; omega
  refine ⟨?_, ?_, ?_, fun i hi => ?_, ?_⟩
  · rw [List.append_assoc, List.getElem?_append_right (by omega), e]; simp
  · rw [List.append_assoc, List.getElem?_append_right (by omega), e, show k * 3 + 1 - k * 3 = 1 by omega]; simp
  · rw [List.append_assoc, List.getElem?_append_right (by omega), e, show k * 3 + 2 - k * 3 = 2 by omega]; simp
  · rw [List.append_assoc, List.getElem?_append_left (by omega), List.getElem?_take, if_pos hi]
  · simp only [List.length_append, e, List.length_drop, List.length_cons, List.length_nil]; omega

/-- a row that is being filled with trees -/
structure KPart (w : World) (g lo cap : Nat) (cur : Array Value) (ks : List Rex) (k : Nat) (L : List KInfo) : Prop where
  blk : Blk w g cur TRx
  size : cur.size = cap * 3
  capn : ks.length ≤ cap
  capm : cap ≤ maxLen
  len : L.length = k
  le : k ≤ ks.length
  cells : cur.toList.take (k * 3) = kcells (ks.take k) L
  hr : ∀ (i : Nat) (r : Rex) (x : KInfo), ks[i]? = some r → L[i]? = some x → OwnT w x.fp r x.v1 x.v2
  nd : (g :: fps L).Nodup
  lo : ∀ b, b ∈ g :: fps L → lo ≤ b
theorem KPart.lt {w : World} {g lo cap : Nat} {cur : Array Value} {ks : List Rex} {k : Nat} {L : List KInfo} (h : KPart w g lo cap cur ks k L) : ∀ b, b ∈ g :: fps L → b < w.heap.size := by
  intro b hb
  rcases List.mem_cons.1 hb with rfl | hb
  · exact h.blk.lt
  · obtain ⟨i, x, hx, hb⟩ := mem_fps.1 hb
    have hi := (List.getElem?_eq_some_iff.1 hx).1
    have hl := h.len
    have hle := h.le
    exact (h.hr i (ks[i]'(by omega)) x (List.getElem?_eq_getElem _) hx).lt b hb
theorem splice_take (l : List Value) (a b c : Value) (k : Nat) (h : k * 3 + 2 < l.length) : (l.take (k * 3) ++ [a, b, c] ++ l.drop (k * 3 + 3)).take ((k + 1) * 3) = l.take (k * 3) ++ [a, b, c] := by
  have e : (l.take (k * 3) ++ [a, b, c]).length = (k + 1) * 3 := by simp only [List.length_append, List.length_take, List.length_cons, List.length_nil]; omega
  rw [List.take_append_of_le_length (by omega), List.take_of_length_le (by omega)]
theorem KPart.snoc {w w2 w5 : World} {g lo cap : Nat} {cur : Array Value} {ks : List Rex} {k : Nat} {L : List KInfo} (h : KPart w g lo cap cur ks k L) {r : Rex} (hk : ks[k]? = some r) (b2 : Below w.heap.size w w2) {fp : List Nat} {u1 u2 : Value}
    (ho : OwnT w2 fp r u1 u2) (hf : ∀ b, b ∈ fp → w.heap.size ≤ b) (nd : fp.Nodup) (hX : Blk w5 g (cur.toList.take (k * 3) ++ [.int .i64 r.kind, u1, u2] ++ cur.toList.drop (k * 3 + 3)).toArray TRx) (hg : w2.grownBy w5 (some g)) (hlo : lo ≤ w.heap.size) :
    KPart w5 g lo cap (cur.toList.take (k * 3) ++ [.int .i64 r.kind, u1, u2] ++ cur.toList.drop (k * 3 + 3)).toArray ks (k + 1) (L ++ [⟨fp, u1, u2⟩]) := by
  have hklt := (List.getElem?_eq_some_iff.1 hk).1
  have hsz := h.size
  have hcapn := h.capn
  have hlen := h.len
  have k0 : k * 3 + 2 < cur.toList.length := by rw [Array.length_toList]; omega
  obtain ⟨_, _, _, _, s4⟩ := splice3 cur.toList (.int .i64 r.kind) u1 u2 k k0
  have hglt : g < w.heap.size := h.blk.lt
  have stay : ∀ b, b < w2.heap.size → b ≠ g → w5.heap[b]? = w2.heap[b]? := fun b hb hne => hg.block b hb fun e => by injection e with e; exact hne e
  refine ⟨hX, by rw [List.size_toArray, s4, Array.length_toList]; exact hsz, h.capn, h.capm, by simp [hlen], hklt, ?_, ?_, ?_, ?_⟩
  · show List.take ((k + 1) * 3) _ = _
    rw [splice_take _ _ _ _ _ k0, h.cells, List.take_add_one, hk]
    exact (kcells_append _ _ _ ⟨fp, u1, u2⟩ (by simp [hlen]; omega)).symm
  · intro i r' x hi hx
    by_cases e : i < L.length
    · rw [List.getElem?_append_left e] at hx
      have hT := h.hr i r' x hi hx
      refine (hT.under b2).stay fun b hb => stay b (Nat.lt_of_lt_of_le (hT.lt b hb) b2.size) fun e => ?_
      have := List.nodup_cons.1 h.nd
      exact this.1 (e ▸ mem_fps.2 ⟨i, x, hx, hb⟩)
    · have e2 : i = L.length := by
        have := (List.getElem?_eq_some_iff.1 hx).1
        simp at this
        omega
      subst e2
      rw [hlen, hk] at hi
      obtain rfl := Option.some.inj hi
      simp at hx
      subst hx
      exact ho.stay fun b hb => stay b (ho.lt b hb) fun e => by have := hf b hb; omega
  · have hn : (fps (L ++ [⟨fp, u1, u2⟩])) = fps L ++ fp := by rw [fps_append]; simp [fps]
    rw [hn, ← List.cons_append]
    refine List.nodup_append.2 ⟨h.nd, nd, fun a ha b hb e => ?_⟩
    have h1 := h.lt a ha
    have h2 := hf b hb
    omega
  · have hn : (fps (L ++ [⟨fp, u1, u2⟩])) = fps L ++ fp := by rw [fps_append]; simp [fps]
    rw [hn, ← List.cons_append]
    intro b hb
    rcases List.mem_append.1 hb with hb | hb
    · exact h.lo b hb
    · exact Nat.le_trans hlo (hf b hb)
theorem KPart.done {w : World} {g lo cap : Nat} {cur : Array Value} {ks : List Rex} {k : Nat} {L : List KInfo} (h : KPart w g lo cap cur ks k L) (hk : k = ks.length) :
    OwnK w (g :: fps L) ks (.slice (some ⟨g, 0, none⟩) ks.length cap) L := by
  subst hk
  obtain ⟨hb, hs, hn, hm, hl, _, hc, hr, nd, _⟩ := h
  rw [List.take_length] at hc
  exact ⟨hl.symm, ⟨kcells_length _ _ hl.symm, .inr ⟨g, cap, cur, rfl, Nat.zero_le _, hb.eq, hn, hm, hs, hc⟩⟩, by unfold maxLen at hm; unfold maxN; omega, hr, rfl, nd⟩
theorem KPart.first {w : World} {g lo cap : Nat} {cur : Array Value} {ks : List Rex} (hb : Blk w g cur TRx) (hs : cur.size = cap * 3) (hn : ks.length ≤ cap) (hm : cap ≤ maxLen) (hl : lo ≤ g) : KPart w g lo cap cur ks 0 [] :=
  ⟨hb, hs, hn, hm, rfl, Nat.zero_le _, by simp [kcells], fun i r x _ h => by simp at h, by simp [fps], fun b hb => by simp [fps] at hb; omega⟩

def ToOk (r : Rex) : Prop := ∀ (v1 v2 : Value) (w : World) (lo : Nat), RexV w lo r (.int .i64 r.kind) v1 v2 → r.size ≤ 1048576 →
  Calls Tryz.prog 24 #[.agg #[.int .i64 r.kind, v1, v2]] w fun e w' => ∃ u1 u2 fp, e = .returned (.agg #[.int .i64 r.kind, u1, u2]) ∧ OwnT w' fp r u1 u2 ∧ fp.Nodup ∧ (∀ b, b ∈ fp → w.heap.size ≤ b) ∧ Below w.heap.size w w'

set_option maxHeartbeats 2000000 in
theorem toRexS_of (ks : List Rex) (ih : ∀ r, r ∈ ks → ToOk r) (K : Option Addr) (ck : Nat) (w : World) (lo : Nat) (h : Kids w lo K ck ks) (hsz : ks.length + sizeL ks ≤ 1048576) :
    Calls Tryz.prog 72 #[.slice K ks.length ck] w fun e w' => ∃ K' ck' L fk, e = .returned (.slice K' ks.length ck') ∧ OwnK w' fk ks (.slice K' ks.length ck') L ∧ (∀ b, b ∈ fk → w.heap.size ≤ b) ∧ Below w.heap.size w w' := by
  obtain ⟨i0, hi, hz0, hz1, hz2⟩ := info_parts infoRx
  have hlen : ks.length ≤ 1048576 := by omega
  go_enter Tryz.func72, Tryz.ntmps72
  go_wp2_with (at_make; refine wpList_make_full _ rfl (.tmp 6) (.tmp 6) 24 rfl w.heap.size TRx i0 (.agg #[.int .i64 0, nilS, nilS]) 3 Tryz.underlying24 hi hz0 hz1 .i64 .i64 _ _ ks.length rfl rfl rfl rfl (by rw [hz2]; omega) (by unfold maxLen; omega) (Nat.le_refl _) ?_; intro w1 hown hgrow)
  obtain ⟨cur, hB, hcs, _⟩ := own_blk hown
  have HX := Lib.hid (KPart.first (lo := w.heap.size) (ks := ks) hB hcs (Nat.le_refl _) (by unfold maxLen; omega) (Nat.le_refl _))
  have HB := Lib.hid ((Below.refl _ w).grown hgrow (Nat.le_refl _) (fun k hk => by cases hk))
  clear hown hgrow hi hz0 hz1 hz2 hB hcs
  go_loopg [4] (ks.length) (fun n i wr => ∃ k : Nat, k + n = ks.length ∧ i = .int .i64 k ∧ ∃ (cur : Array Value) (L : List KInfo), Hid (KPart wr w.heap.size w.heap.size ks.length cur ks k L) ∧ Hid (Below w.heap.size w wr))
  case atStart => exact ⟨0, by omega, rfl, cur, [], HX, HB⟩
  case round =>
    clear HX HB
    obtain ⟨k, hk, rfl, cur, L, HX, HB⟩ := hrel
    by_cases hlt : k < ks.length
    · obtain ⟨a, r, v1, v2, rfl, HK, HD, HT, c0, c1, c2⟩ := (h.below HB.out).at_ k hlt
      have hmem := List.mem_of_getElem? HK.out
      have hrs := size_kid hmem
      go_wp2_with fail
      refine (ih r hmem v1 v2 _ _ HT.out (by omega)).mono ?_
      rintro e w2 ⟨u1, u2, fp, rfl, hv, hnd, hf, b2⟩
      clear c0 c1 c2
      have HV := Lib.hid hv
      have HN := Lib.hid hnd
      have HF := Lib.hid hf
      have B2 := Lib.hid b2
      have HX2 := Lib.hid (HX.out.blk.below b2)
      have hcs := HX.out.size
      have H1 := Lib.hid hv.rex0.one
      have hcs2 : k * 3 + 3 ≤ cur.size := by omega
      clear hv hnd hf b2 hcs
      go_wp2_with ((with_reducible refine at_st 21 20 ?_); refine ev_store (o := ⟨none, .store _ (.tmp 21) _, _, _, _, _⟩) rfl rfl TRx (.tmp 21) (.tmp 20) rfl w.heap.size (k * 3) rfl [.int .i64 r.kind, u1, u2] rfl cur TRx HX2.out (sizeRx' _ _ _) (by show k * 3 + 3 ≤ _; omega) H1.out ?_; intro w5 hX5 hg5; have HX5 : Hid (Blk w5 w.heap.size (cur.toList.take (k * 3) ++ [.int .i64 r.kind, u1, u2] ++ cur.toList.drop (k * 3 + 3)).toArray TRx) := hX5; have HG5 := Lib.hid hg5; clear hX5 hg5)
      clear hcs2
      go_roundg (gk - 1)
      case rel =>
        have hs1 := HB.out.size
        exact ⟨k + 1, by omega, by go_num, _, _, HX.out.snoc HK.out B2.out HV.out HF.out HN.out HX5.out HG5.out hs1, (below_then HB.out B2.out).grown HG5.out (Nat.le_trans hs1 B2.out.size) (fun q hq => by injection hq with hq; omega)⟩
      case measure => omega
    · go_wp2
      go_ret
      have hk' : k = ks.length := by omega
      exact ⟨_, _, L, _, rfl, HX.out.done hk', fun b hb => HX.out.lo b hb, HB.out⟩

set_option maxHeartbeats 2000000 in
theorem toRex_c (r : Rex) : ToOk r := by
  refine Rex.ind (p := ToOk) (fun k s ks ih => ?_) r
  intro v1 v2 w lo h hsz
  obtain ⟨A, c, K, ck, _, rfl, rfl, hs, hk⟩ := h.parts
  dsimp only [Rex.kind, Rex.set, Rex.kids] at hs hk ⊢
  rw [Rex.size] at hsz
  clear h
  have hs1 : s.length ≤ 1048576 := by omega
  have hs2 : ks.length + sizeL ks ≤ 1048576 := by omega
  obtain ⟨wa, hwa⟩ : ∃ x, x = (((w.alloc (.cells #[.int .i64 k, .slice A s.length c, .slice K ks.length ck] 38)).alloc (.cells #[.int .i64 0, nilS, nilS] TRx)).alloc (.cells #[.int .i64 k, nilS, nilS] TRx)) := ⟨_, rfl⟩
  have hb : Below w.heap.size w wa := by rw [hwa]; exact below_alloc (below_alloc (below_alloc (Below.refl _ _) _) _) _
  have m0 : Blk wa w.heap.size #[.int .i64 k, .slice A s.length c, .slice K ks.length ck] 38 := by
    rw [hwa]
    exact ((blk_new w _ _).alloc _).alloc _
  have m1 : Blk wa (w.heap.size + 1) #[.int .i64 0, nilS, nilS] TRx := by
    rw [hwa]
    have := (blk_new (w.alloc (.cells #[.int .i64 k, .slice A s.length c, .slice K ks.length ck] 38)) #[.int .i64 0, nilS, nilS] TRx).alloc (.cells #[.int .i64 k, nilS, nilS] TRx)
    simpa using this
  have m2 : Blk wa (w.heap.size + 1 + 1) #[.int .i64 k, nilS, nilS] TRx := by
    rw [hwa]
    have := blk_new ((w.alloc (.cells #[.int .i64 k, .slice A s.length c, .slice K ks.length ck] 38)).alloc (.cells #[.int .i64 0, nilS, nilS] TRx)) #[.int .i64 k, nilS, nilS] TRx
    simpa using this
  have hz := m2.lt
  have HB := Lib.hid hb
  have M0 := Lib.hid m0
  have M1 := Lib.hid m1
  have M2 := Lib.hid m2
  have HS := Lib.hid (hs.below hb)
  have HK := Lib.hid hk
  clear hb m0 m1 m2 hs hk
  go_enter Tryz.func24, Tryz.ntmps24
  go_wp2_with fail
  rw [← hwa]
  refine (toSpanS_c _ _ _ _ HS.out hs1).mono ?_
  rintro e w3 ⟨v3, rfl, o3, b3⟩
  obtain ⟨A3, c3, rfl, _⟩ := o3.sps
  have M03 := Lib.hid (M0.out.below b3)
  have M13 := Lib.hid (M1.out.below b3)
  have N2 := M2.out.below b3
  have n0 : w3.cell? ⟨w.heap.size, 2, none⟩ = some (.slice K ks.length ck) := by rw [M03.out.cell]; rfl
  have p1 : w3.cell? ⟨w.heap.size + 1 + 1, 1, none⟩ = some nilS := by rw [N2.cell]; rfl
  have q1 := N2.free 1
  have HS3 := Lib.hid o3
  have HB3 := Lib.hid (below_then HB.out b3)
  have M23 := Lib.hid N2
  have hz3 := b3.size
  clear b3 o3 N2 hwa M0 M1 M2 HS HB
  go_wp2_with fail
  have HB4 := Lib.hid (below_set HB3.out (show w.heap.size ≤ w.heap.size + 1 + 1 by omega) (p := ⟨w.heap.size + 1 + 1, 1, none⟩) (.slice A3 s.length c3))
  refine (toRexS_of ks ih _ _ _ _ (HK.out.below HB4.out) hs2).mono ?_
  rintro e w4 ⟨K4, ck4, L4, fk4, rfl, k4, f4, b4⟩
  have hw3 : wa.heap.size ≤ w3.heap.size := hz3
  have M14 := Lib.hid ((M13.out.far (by show w.heap.size + 1 ≠ w.heap.size + 1 + 1; omega) _).below b4)
  have N2 := (M23.out.set 1 (.slice A3 s.length c3)).below b4
  simp only [List.setIfInBounds_toArray, List.set_cons_succ, List.set_cons_zero] at N2
  have p2 : w4.cell? ⟨w.heap.size + 1 + 1, 2, none⟩ = some nilS := by rw [N2.cell]; rfl
  have q2 := N2.free 2
  have HS4 : Hid (OwnSp w4 wa.heap.size (.slice A3 s.length c3) s) := (HS3.out.stay fun q hq => Below.heap_setCell _ _ _ _ (by show q ≠ w.heap.size + 1 + 1; have := (HS3.out.lt q hq).1; omega)).below b4
  have HK4 := Lib.hid k4
  have HF4 : Hid (∀ b, b ∈ fk4 → w3.heap.size ≤ b) := fun b hb => by simpa using f4 b hb
  have HS3l : Hid (∀ b, b ∈ vblk (.slice A3 s.length c3) → wa.heap.size ≤ b ∧ b < w3.heap.size) := HS3.out.lt
  have HB5 := Lib.hid (below_then HB4.out b4)
  have M24 := Lib.hid N2
  clear n0 p1 q1 N2 b4 k4 f4
  have M25 := Lib.hid (show Blk (w4.setCell ⟨w.heap.size + 1 + 1, 2, none⟩ (.slice K4 ks.length ck4)) (w.heap.size + 1 + 1) [.int .i64 k, .slice A3 s.length c3, .slice K4 ks.length ck4].toArray TRx by simpa using M24.out.set 2 (.slice K4 ks.length ck4))
  have M15 := Lib.hid (M14.out.far (p := ⟨w.heap.size + 1 + 1, 2, none⟩) (by show w.heap.size + 1 ≠ w.heap.size + 1 + 1; omega) (.slice K4 ks.length ck4))
  have HB6 := Lib.hid (below_set HB5.out (show w.heap.size ≤ w.heap.size + 1 + 1 by omega) (p := ⟨w.heap.size + 1 + 1, 2, none⟩) (.slice K4 ks.length ck4))
  have hkeep : ∀ q, wa.heap.size ≤ q → (w4.setCell ⟨w.heap.size + 1 + 1, 2, none⟩ (.slice K4 ks.length ck4)).heap[q]? = w4.heap[q]? := fun q hq => Below.heap_setCell _ _ _ _ (by show q ≠ w.heap.size + 1 + 1; omega)
  have HND : Hid ((vblk (.slice A3 s.length c3) ++ fk4).Nodup) := by
    refine List.nodup_append.2 ⟨?_, HK4.out.nd, fun a ha b hb e => ?_⟩
    · unfold vblk; split <;> simp
    · have h1 := (HS3l.out a ha).2
      have h2 := HF4.out b hb
      omega
  have HV := Lib.hid (OwnT.of (k := k) ((HS4.out.stay fun q hq => hkeep q (HS4.out.lt q hq).1).lower (Nat.zero_le _)) (HK4.out.stay fun q hq => hkeep q (Nat.le_trans hw3 (HF4.out q hq))) HND.out)
  have H1 := Lib.hid HV.out.rex0.one
  have HFF : Hid (∀ b, b ∈ vblk (.slice A3 s.length c3) ++ fk4 → wa.heap.size ≤ b) := fun b hb => by
    rcases List.mem_append.1 hb with hb | hb
    · exact (HS3l.out b hb).1
    · exact Nat.le_trans hw3 (HF4.out b hb)
  clear hkeep
  go_wp2_with (first
    | ((with_reducible refine at_ld 15 ?_); refine ev_load (o := ⟨some 15, _, _, _, _, _⟩) rfl TRx _ rfl (w.heap.size + 1 + 1) rfl [.int .i64 k, .slice A3 s.length c3, .slice K4 ks.length ck4] TRx M25.out _ Tryz.underlying26 rfl (sizeRx' _ _ _) ?_)
    | ((with_reducible refine at_st 2 15 ?_); refine ev_store (o := ⟨none, .store _ (.tmp 2) _, _, _, _, _⟩) rfl rfl TRx (.tmp 2) (.tmp 15) rfl (w.heap.size + 1) 0 rfl [.int .i64 k, .slice A3 s.length c3, .slice K4 ks.length ck4] rfl _ TRx M15.out (sizeRx' _ _ _) (by show 0 + 3 ≤ 3; omega) H1.out ?_; intro w5 hX5 hg5; have HX5 : Hid (Blk w5 (w.heap.size + 1) #[.int .i64 k, .slice A3 s.length c3, .slice K4 ks.length ck4] TRx) := hX5; have HG5 := Lib.hid hg5; clear hX5 hg5))
  refine bodyPost_ret (results_cell_row rfl _ _ (w.heap.size + 1) TRx _ (0, 0) _ rfl HX5.out.eq Tryz.underlying26 rfl (by rw [sizeRx]; rfl)) rfl ⟨_, _, _, rfl, HV.out.stay fun q hq => HG5.out.block q (HV.out.lt q hq) fun e => ?_, HND.out, fun b hb => by have := HFF.out b hb; omega, HB6.out.grown HG5.out HB6.out.size (fun q hq => by injection hq with hq; omega)⟩
  injection e with e
  have := HFF.out q hq
  omega

theorem toRex_v (r : Rex) (v1 v2 : Value) (w : World) (lo : Nat) (h : RexV w lo r (.int .i64 r.kind) v1 v2) (hx : r.size ≤ 1048576) :
    Calls Tryz.prog 24 #[.agg #[.int .i64 r.kind, v1, v2]] w fun e w' => ∃ u1 u2, e = .returned (.agg #[.int .i64 r.kind, u1, u2]) ∧ RexV w' w.heap.size r (.int .i64 r.kind) u1 u2 ∧ Below w.heap.size w w' :=
  (toRex_c r v1 v2 w lo h hx).mono fun e w' ⟨u1, u2, fp, he, ho, _, hf, hb⟩ => ⟨u1, u2, he, ho.rexv _ hf, hb⟩

end Go.Proofs.YtfeidjjabjejiaaGreatDoor

/- copied, at trees and at lists of spans: the same cells in new memory. -/
namespace Go.Proofs.YtfeidjjabjejiaaGreatDoor
set_option linter.unusedSimpArgs false
set_option linter.unusedVariables false
set_option maxRecDepth 100000
open Go.RowKit

abbrev TSS : Nat := 23
theorem infoSS : (Tryz.prog.info? TSS).map (fun i => (i.zero, i.size, i.bytes)) = some (some nilS, 1, 24) := by kernel_rfl
theorem sizeSS : (Tryz.prog.info? TSS).map (·.size) = some 1 := by kernel_rfl

set_option maxHeartbeats 1000000 in
theorem copiedRex_c (A : Option Addr) (c n : Nat) (cs : List Value) (w : World) {lo : Nat} (h : Row w lo A cs) (hn : cs.length = n * 3) (h1 : ∀ u ∈ cs, u.oneCell' = true) (hx : n ≤ 1073741824) :
    Calls Tryz.prog 108 #[.slice A n c] w fun e w' => ∃ v, e = .returned v ∧ w'.ownsRow w.heap.size TRx 3 v n cs ∧ Below w.heap.size w w' := by
  by_cases h0 : n = 0
  · subst h0
    go_enter Tryz.func108, Tryz.ntmps108
    go_wp2
    go_ret
    have : cs = [] := by simpa using hn
    subst this
    exact ⟨_, rfl, World.ownsRow_nil _ _ _ _, Below.refl _ _⟩
  · obtain ⟨i0, hi, hz0, hz1, hz2⟩ := info_parts infoRx
    have b0 : ((n : Int) == 0) = false := by simp [h0]
    have h0' : 0 < n := by omega
    clear h0
    rcases h with rfl | ⟨ad, rfl, _, hc⟩
    · simp at hn; omega
    have HN : Hid (cs.length = n * 3) := hn
    clear hn
    go_enter Tryz.func108, Tryz.ntmps108
    go_wp2_with (first
      | (at_make; refine wpList_make_full _ rfl (.tmp 8) (.tmp 8) 24 rfl w.heap.size TRx i0 (.agg #[.int .i64 0, nilS, nilS]) 3 Tryz.underlying24 hi hz0 hz1 .i64 .i64 _ _ n rfl rfl rfl rfl (by rw [hz2]; omega) (by unfold maxLen; omega) (Nat.le_refl _) ?_; intro w1 hown hgrow; obtain ⟨cur, hB, hsz, _⟩ := own_blk hown; have hb1 := (Below.refl _ w).grown hgrow (Nat.le_refl _) (fun k hk => by cases hk); have hc1 := hc.below hb1; clear hown hgrow; have HS : Hid (cur.size = n * 3) := hsz; clear hsz)
      | (with_reducible refine ev_copy (o := ⟨some 12, _, _, _, _, _⟩) rfl (.tmp 10) (.tmp 11) _ _ rfl TRx Tryz.underlying24 3 sizeRx w.heap.size n n _ ad rfl rfl cur TRx hB cs HN.out hc1 (by rw [HN.out, HS.out]; exact Nat.le_refl _) h1 ?_; intro w2 hB2 hg2))
    go_ret
    have e : cur.toList.drop cs.length = [] := List.drop_of_length_le (by rw [Array.length_toList, HN.out, HS.out]; exact Nat.le_refl _)
    rw [e, List.append_nil] at hB2
    exact ⟨_, rfl, own_of_blk hB2 HN.out (Nat.le_refl _) (by unfold maxLen; omega), hb1.grown hg2 hb1.size (fun k hk => by injection hk with hk; omega)⟩
set_option maxHeartbeats 1000000 in
theorem copiedSS_c (A : Option Addr) (c n : Nat) (cs : List Value) (w : World) {lo : Nat} (h : Row w lo A cs) (hn : cs.length = n * 1) (h1 : ∀ u ∈ cs, u.oneCell' = true) (hx : n ≤ 1073741824) :
    Calls Tryz.prog 92 #[.slice A n c] w fun e w' => ∃ v, e = .returned v ∧ w'.ownsRow w.heap.size TSS 1 v n cs ∧ Below w.heap.size w w' := by
  by_cases h0 : n = 0
  · subst h0
    go_enter Tryz.func92, Tryz.ntmps92
    go_wp2
    go_ret
    have : cs = [] := by simpa using hn
    subst this
    exact ⟨_, rfl, World.ownsRow_nil _ _ _ _, Below.refl _ _⟩
  · obtain ⟨i0, hi, hz0, hz1, hz2⟩ := info_parts infoSS
    have b0 : ((n : Int) == 0) = false := by simp [h0]
    have h0' : 0 < n := by omega
    clear h0
    rcases h with rfl | ⟨ad, rfl, _, hc⟩
    · simp at hn; omega
    have HN : Hid (cs.length = n * 1) := hn
    clear hn
    go_enter Tryz.func92, Tryz.ntmps92
    go_wp2_with (first
      | (at_make; refine wpList_make_full _ rfl (.tmp 8) (.tmp 8) 51 rfl w.heap.size TSS i0 nilS 1 Tryz.underlying51 hi hz0 hz1 .i64 .i64 _ _ n rfl rfl rfl rfl (by rw [hz2]; omega) (by unfold maxLen; omega) (Nat.le_refl _) ?_; intro w1 hown hgrow; obtain ⟨cur, hB, hsz, _⟩ := own_blk hown; have hb1 := (Below.refl _ w).grown hgrow (Nat.le_refl _) (fun k hk => by cases hk); have hc1 := hc.below hb1; clear hown hgrow; have HS : Hid (cur.size = n * 1) := hsz; clear hsz)
      | (with_reducible refine ev_copy (o := ⟨some 12, _, _, _, _, _⟩) rfl (.tmp 10) (.tmp 11) _ _ rfl TSS Tryz.underlying51 1 sizeSS w.heap.size n n _ ad rfl rfl cur TSS hB cs HN.out hc1 (by rw [HN.out, HS.out]; exact Nat.le_refl _) h1 ?_; intro w2 hB2 hg2))
    go_ret
    have e : cur.toList.drop cs.length = [] := List.drop_of_length_le (by rw [Array.length_toList, HN.out, HS.out]; exact Nat.le_refl _)
    rw [e, List.append_nil] at hB2
    exact ⟨_, rfl, own_of_blk hB2 HN.out (Nat.le_refl _) (by unfold maxLen; omega), hb1.grown hg2 hb1.size (fun k hk => by injection hk with hk; omega)⟩

end Go.Proofs.YtfeidjjabjejiaaGreatDoor
