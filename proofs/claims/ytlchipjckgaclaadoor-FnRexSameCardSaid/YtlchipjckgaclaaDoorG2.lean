/- Texts joined for the claims: W2 W4 Bits W3 Rd W1h Cs W5 W6 W9 W10 Dr Mem. -/
import Derived.Test.YtlchipjckgaclaaDoorG1
import Derived.Laws.StructEq
import Derived.Laws.Bits64
/- spec.SetOk; the two comparisons of sets; sizes and copies of the laws' arguments. -/
namespace Go.Proofs.YtlchipjckgaclaaDoor
set_option linter.unusedSimpArgs false
set_option linter.unusedVariables false
set_option maxRecDepth 100000
open Go.RowKit

set_option maxHeartbeats 2000000 in
theorem sSetOk_c (A : Option Addr) (c : Nat) (xs : List Sp) (w : World) {lo : Nat} (h : Sps w lo A c xs) :
    Calls Tryd.prog 31 #[.slice A xs.length c] w fun e w' => e = .returned (.bool (setOk xs)) ∧ Drawn w w' := by
  have hlen := h.len
  unfold maxN at hlen
  go_enter Tryd.func31, Tryd.ntmps31
  go_wp2
  go_loopg [3] (xs.length) (fun n i wr => ∃ (k : Nat) (p : Option Int), k + n = xs.length ∧ i = .int .i64 k ∧ Hid (setOkGo p (xs.drop k) = setOk xs) ∧ Hid (PrevOk xs k p) ∧ Drawn w wr)
  case atStart => exact ⟨0, none, by omega, rfl, by rw [List.drop_zero]; rfl, .inl ⟨rfl, rfl⟩, 0, rfl⟩
  case round =>
    obtain ⟨k, p, hk, rfl, HS, HP, m, rfl⟩ := hrel
    by_cases hlt : k < xs.length
    · obtain ⟨a, x, rfl, HX, HD, h0, h1⟩ := h.at_ k hlt
      have ST : Hid _ := setOkGo_step HD.out HS.out
      clear HD HS
      by_cases c1 : x.lo < 0
      · have d1 : decide (x.lo < 0) = true := decide_eq_true c1
        clear c1
        go_wp2
        go_quiet (fail)
        go_wp2
        go_ret
        exact ⟨ret_bool (by rw [ST.out.1 (spBad_none (.inl (of_decide_eq_true d1)) _)]), drewN_drewN _ _ _⟩
      have d1 : decide (x.lo < 0) = false := decide_eq_false c1
      by_cases c2 : 255 < x.hi
      · have d2 : decide (255 < x.hi) = true := decide_eq_true c2
        clear c1 c2
        go_wp2
        go_quiet (fail)
        go_wp2
        go_ret
        exact ⟨ret_bool (by rw [ST.out.1 (spBad_none (.inr (.inr (of_decide_eq_true d2))) _)]), drewN_drewN _ _ _⟩
      have d2 : decide (255 < x.hi) = false := decide_eq_false c2
      by_cases c3 : x.hi < x.lo
      · have d3 : decide (x.hi < x.lo) = true := decide_eq_true c3
        clear c1 c2 c3
        go_wp2
        go_quiet (fail)
        go_wp2
        go_ret
        exact ⟨ret_bool (by rw [ST.out.1 (spBad_none (.inr (.inl (of_decide_eq_true d3))) _)]), drewN_drewN _ _ _⟩
      have d3 : decide (x.hi < x.lo) = false := decide_eq_false c3
      have X0 : Hid (0 ≤ x.hi ∧ x.hi ≤ 255) := ⟨by omega, by omega⟩
      rcases HP.out with ⟨hk0, rfl⟩ | ⟨j, y, hj, hy, rfl, y0, y1⟩
      · have C : Hid (spBad none x = false) := spGood (by omega) (by omega) (by omega) (fun q hq => by cases hq)
        have d4 : decide (0 < k) = false := decide_eq_false (by omega)
        clear c1 c2 c3 hk0
        go_wp2
        go_quiet (fail)
        go_wp2
        go_roundg (gk - 1)
        case rel => exact ⟨k + 1, some x.hi, by omega, by go_num, ST.out.2 C.out, .inr ⟨k, x, rfl, HX.out, rfl, X0.out.1, X0.out.2⟩, ⟨_, rfl⟩⟩
        case measure => omega
      · obtain ⟨a', y', ea, HY, _, _, h3⟩ := h.at_ (k - 1) (by omega)
        cases ea
        obtain rfl : y = y' := by
          have := HY.out
          rw [show k - 1 = j by omega, hy] at this
          exact Option.some.inj this
        have d4 : decide (0 < k) = true := decide_eq_true (by omega)
        have e1 : IntKind.i64.wrap ((k : Int) - 1) = (k : Int) - 1 := IntWalk.i64_in _ (by omega)
        have e2 : (0 : Int) ≤ (k : Int) - 1 := by omega
        have e6 : (1 : Int) ≤ (k : Int) := by omega
        have e3 : (k : Int) - 1 < (xs.length : Int) := by omega
        have e4 : ((k : Int) - 1).toNat = k - 1 := by omega
        have e5 : IntKind.i64.wrap (y.hi + 1) = y.hi + 1 := IntWalk.i64_in _ (by omega)
        by_cases c4 : x.lo ≤ y.hi + 1
        · have d5 : decide (x.lo ≤ y.hi + 1) = true := decide_eq_true c4
          have C : Hid (spBad (some y.hi) x = true) := spBad_some c4
          clear c1 c2 c3 c4 hj
          go_wp2
          go_quiet (fail)
          clear e1 e2 e3 e4 e5 e6
          go_wp2
          go_ret
          exact ⟨ret_bool (by rw [ST.out.1 C.out]), drewN_drewN _ _ _⟩
        · have d5 : decide (x.lo ≤ y.hi + 1) = false := decide_eq_false c4
          have C : Hid (spBad (some y.hi) x = false) := spGood (by omega) (by omega) (by omega) (fun q hq => by cases hq; omega)
          clear c1 c2 c3 c4 hj
          go_wp2
          go_quiet (fail)
          clear e1 e2 e3 e4 e5 e6
          go_wp2
          go_roundg (gk - 1)
          case rel => exact ⟨k + 1, some x.hi, by omega, by go_num, ST.out.2 C.out, .inr ⟨k, x, rfl, HX.out, rfl, X0.out.1, X0.out.2⟩, ⟨_, rfl⟩⟩
          case measure => omega
    · go_wp2
      go_ret
      exact ⟨ret_bool (by rw [← HS.out, List.drop_of_length_le (by omega)]; rfl), m, rfl⟩

def szLeft (n : Nat) (left : Int) : Int := if left < n then -1 else left - n
theorem szSpanS_c (A : Option Addr) (c n : Nat) (left : Int) (w : World) (hn : n ≤ maxN) (h0 : 0 ≤ left) (h1 : left ≤ 1048576) :
    Calls Tryd.prog 9 #[.slice A n c, .int .i64 left] w fun e w' => e = .returned (.int .i64 (szLeft n left)) ∧ w = w' := by
  unfold maxN at hn
  go_enter Tryd.func9, Tryd.ntmps9
  by_cases hlt : left < n
  · go_wp2
    go_ret
    exact ⟨ret_int (by rw [szLeft, if_pos (by omega)]), rfl⟩
  · go_wp2
    go_ret
    exact ⟨ret_int (by rw [szLeft, if_neg (by omega)]), rfl⟩

theorem toSpan_c (x : Sp) (w : World) :
    Calls Tryd.prog 42 #[.agg #[.int .i64 x.lo, .int .i64 x.hi]] w fun e w' => e = .returned (.agg #[.int .i64 x.lo, .int .i64 x.hi]) ∧ Below w.heap.size w w' := by
  go_enter Tryd.func42, Tryd.ntmps42
  go_wp2
  refine bodyPost_ret (v := .agg #[.int .i64 x.lo, .int .i64 x.hi]) (by simp [results, Tryd.results42, go_sem]) rfl ⟨rfl, ?_⟩
  exact below_alloc (below_alloc (below_alloc (Below.refl _ _) _) _) _

theorem sp_ne1 {x y : Sp} (h : (x.lo != y.lo) = true) : x ≠ y := by rintro rfl; simp at h
theorem sp_ne2 {x y : Sp} (h : (x.hi != y.hi) = true) : x ≠ y := by rintro rfl; simp at h
theorem sp_eq {x y : Sp} (h : (x.lo != y.lo) = false) (h' : (x.hi != y.hi) = false) : x = y := by
  cases x; cases y; simp at h h'; rw [h, h']

theorem eqSpan_c (x y : Sp) (w : World) :
    Calls Tryd.prog 45 #[.agg #[.int .i64 x.lo, .int .i64 x.hi], .agg #[.int .i64 y.lo, .int .i64 y.hi]] w fun e w' => e = .returned (.bool (decide (x = y))) ∧ Below w.heap.size w w' := by
  have B := below_alloc (below_alloc (Below.refl w.heap.size w) (.cells #[.int .i64 x.lo, .int .i64 x.hi] 60)) (.cells #[.int .i64 y.lo, .int .i64 y.hi] 60)
  have HB : Hid _ := B
  clear B
  go_enter Tryd.func45, Tryd.ntmps45
  go_wp2
  all_goals go_ret
  · exact ⟨ret_bool (decide_eq_false (sp_ne1 (by assumption))).symm, HB.out⟩
  · exact ⟨ret_bool (decide_eq_false (sp_ne2 (by assumption))).symm, HB.out⟩
  · exact ⟨ret_bool (decide_eq_true (sp_eq (by assumption) (by assumption))).symm, HB.out⟩

theorem drop_eq_step {xs ys xs' ys' : List Sp} {x y : Sp} {r : Bool} (hx : xs = x :: xs') (hy : ys = y :: ys') (hr : decide (xs = ys) = r) : (decide (x = y) = false → r = false) ∧ (decide (x = y) = true → decide (xs' = ys') = r) := by
  subst hx hy
  rw [← hr]
  refine ⟨fun h => ?_, fun h => ?_⟩
  · rw [decide_eq_false_iff_not] at h ⊢
    intro hc
    exact h (List.cons.inj hc).1
  · rw [decide_eq_true_eq] at h
    subst h
    simp

set_option maxRecDepth 100000 in
set_option maxHeartbeats 1000000 in
theorem eqSpanS_c (A B : Option Addr) (c d : Nat) (xs ys : List Sp) (w : World) {lo lo' : Nat} (h : Sps w lo A c xs) (h' : Sps w lo' B d ys) :
    Calls Tryd.prog 13 #[.slice A xs.length c, .slice B ys.length d] w fun e w' => e = .returned (.bool (decide (xs = ys))) ∧ Below w.heap.size w w' := by
  have hlen := h.len
  have hlen' := h'.len
  unfold maxN at hlen hlen'
  by_cases he : xs.length = ys.length
  · have b1 : ((xs.length : Int) != (ys.length : Int)) = false := by simp [he]
    have HE : Hid (xs.length = ys.length) := he
    clear he
    go_enter Tryd.func13, Tryd.ntmps13
    go_wp2
    go_loopg [5] (xs.length) (fun n i wr => ∃ k : Nat, k + n = xs.length ∧ i = .int .i64 k ∧ Hid (decide (xs.drop k = ys.drop k) = decide (xs = ys)) ∧ Below w.heap.size w wr)
    case atStart => exact ⟨0, by omega, rfl, by rw [List.drop_zero, List.drop_zero]; rfl, Below.refl _ _⟩
    case round =>
      obtain ⟨k, hk, rfl, HS, hb⟩ := hrel
      by_cases hlt : k < xs.length
      · have hlt' : k < ys.length := by have := HE.out; omega
        obtain ⟨a, x, rfl, _, HD, h0, h1⟩ := (h.below hb).at_ k hlt
        obtain ⟨a', y, rfl, _, HD', h0', h1'⟩ := (h'.below hb).at_ k hlt'
        have ST : Hid _ := drop_eq_step HD.out HD'.out HS.out
        go_wp2
        go_still_tail 8, (by kernel_rfl)
        go_wp2_with (go_at_call 45; refine (eqSpan_c _ _ _).mono ?_; rintro e w' ⟨rfl, hb'⟩)
        · go_ret
          exact ⟨ret_bool (ST.out.1 (by simpa using ‹(!decide (x = y)) = true›)).symm, below_then (below_drew hb) hb'⟩
        · go_roundg (gk - 1)
          case rel => exact ⟨k + 1, by omega, by go_num, ST.out.2 (by simpa using ‹(!decide (x = y)) = false›), below_then (below_drew hb) hb'⟩
          case measure => omega
      · go_wp2
        go_ret
        exact ⟨ret_bool (by rw [← HS.out, List.drop_of_length_le (by omega), List.drop_of_length_le (by have := HE.out; omega)]; rfl), hb⟩
  · have b1 : ((xs.length : Int) != (ys.length : Int)) = true := by simp; omega
    have b2 : (xs.length == ys.length) = false := by simp [he]
    have C : Hid (decide (xs = ys) = false) := decide_eq_false (by rintro rfl; exact he rfl)
    clear he
    go_enter Tryd.func13, Tryd.ntmps13
    go_wp2
    go_ret
    exact ⟨ret_bool C.out.symm, Below.refl _ _⟩

end Go.Proofs.YtlchipjckgaclaaDoor

/- same, the two SetSame, the two MatchWord. -/
namespace Go.Proofs.YtlchipjckgaclaaDoor
set_option linter.unusedSimpArgs false
set_option linter.unusedVariables false
set_option maxRecDepth 100000
open Go.RowKit

theorem uSp : Tryd.prog.underlying TSp = some (.struct (Tryd.prog.fieldsOf TSp)) := by kernel_rfl
theorem sSp : Tryd.prog.stoodInHeld TSp = false := by kernel_rfl
theorem gSp : Tryd.prog.eqGuardType Tryd.prog.depth TSp = false := by kernel_rfl
theorem fSp : (Tryd.prog.fieldsOf TSp).toList.map (fun f => (f.name == "_", f.type, f.offset)) = [(false, 3, 0), (false, 3, 1)] := by kernel_rfl
theorem neqSp (x y : Sp) (w : World) : (binOp .neq TSp (.agg #[.int .i64 x.lo, .int .i64 x.hi]) (.agg #[.int .i64 y.lo, .int .i64 y.hi])).run Tryd.prog w = .ok (.bool (!decide (x = y))) w := by
  rw [run_neq_struct, run_equalIn_struct (P := Tryd.prog) w 9999 TSp _ _ uSp sSp]
  have hf := fSp
  generalize (Tryd.prog.fieldsOf TSp).toList = l at hf
  obtain ⟨f0, f1, rfl⟩ : ∃ f0 f1, l = [f0, f1] := by
    have := congrArg List.length hf
    rw [List.length_map] at this
    rcases l with _ | ⟨f0, _ | ⟨f1, _ | ⟨f2, l⟩⟩⟩ <;> simp at this
    exact ⟨f0, f1, rfl⟩
  · simp only [List.map_cons, List.map_nil, List.cons.injEq, Prod.mk.injEq, and_true] at hf
    obtain ⟨⟨n0, t0, o0⟩, n1, t1, o1⟩ := hf
    have n0' : ¬ f0.name = "_" := by simpa using n0
    have n1' : ¬ f1.name = "_" := by simpa using n1
    have p0 : ∀ a b : Int, (part 3 #[.int .i64 a, .int .i64 b] 0).run Tryd.prog w = .ok (.int .i64 a) w := by
      intro a b
      kernel_rfl
    have p1 : ∀ a b : Int, (part 3 #[.int .i64 a, .int .i64 b] 1).run Tryd.prog w = .ok (.int .i64 b) w := by
      intro a b
      kernel_rfl
    have q : ∀ a b : Int, (Op.equalIn 9999 3 (.int .i64 a) (.int .i64 b)).run Tryd.prog w = .ok (a == b) w := fun a b => run_equalIn_int w 9998 _ _ .i64 a b Tryd.underlying3
    simp only [Op.eqFields, ne_eq, n0', n1', not_false_eq_true, if_true, Sem.run_bind, t0, t1, o0, o1, p0, p1, q, Result.andThen_ok]
    by_cases c0 : x.lo = y.lo
    · by_cases c1 : x.hi = y.hi
      · have e : x = y := by cases x; cases y; simp at c0 c1; rw [c0, c1]
        subst e
        simp [p1, q]
      · have e : x ≠ y := by rintro rfl; exact c1 rfl
        simp [c0, c1, e, p1, q]
    · have e : x ≠ y := by rintro rfl; exact c0 rfl
      simp [c0, e]

set_option maxHeartbeats 1000000 in
theorem same_c (A B : Option Addr) (c d : Nat) (xs ys : List Sp) (w : World) {lo lo' : Nat} (h : Sps w lo A c xs) (h' : Sps w lo' B d ys) :
    Calls Tryd.prog 53 #[.slice A xs.length c, .slice B ys.length d] w fun e w' => e = .returned (.bool (decide (xs = ys))) ∧ Drawn w w' := by
  have hlen := h.len
  have hlen' := h'.len
  unfold maxN at hlen hlen'
  by_cases he : xs.length = ys.length
  · have b1 : ((xs.length : Int) != (ys.length : Int)) = false := by simp [he]
    have HE : Hid (xs.length = ys.length) := he
    clear he
    go_enter Tryd.func53, Tryd.ntmps53
    go_wp2
    go_loopg [13] (xs.length) (fun n i wr => ∃ k : Nat, k + n = xs.length ∧ i = .int .i64 k ∧ Hid (decide (xs.drop k = ys.drop k) = decide (xs = ys)) ∧ Drawn w wr)
    case atStart => exact ⟨0, by omega, rfl, by rw [List.drop_zero, List.drop_zero]; rfl, Drawn.refl _⟩
    case round =>
      obtain ⟨k, hk, rfl, HS, m, rfl⟩ := hrel
      by_cases hlt : k < xs.length
      · have hlt' : k < ys.length := by have := HE.out; omega
        obtain ⟨a, x, rfl, _, HD, h0, h1⟩ := h.at_ k hlt
        obtain ⟨a', y, rfl, _, HD', h0', h1'⟩ := h'.at_ k hlt'
        have ST : Hid _ := drop_eq_step HD.out HD'.out HS.out
        have N0 := fun wx => neqSp x y wx
        have N1 := gSp
        go_wp2
        go_quiet (fail)
        go_wp2
        · go_ret
          exact ⟨ret_bool (ST.out.1 (by simpa using ‹(!decide (x = y)) = true›)).symm, drewN_drewN _ _ _⟩
        · go_roundg (gk - 1)
          case rel => exact ⟨k + 1, by omega, by go_num, ST.out.2 (by simpa using ‹(!decide (x = y)) = false›), ⟨_, rfl⟩⟩
          case measure => omega
      · go_wp2
        go_ret
        exact ⟨ret_bool (by rw [← HS.out, List.drop_of_length_le (by omega), List.drop_of_length_le (by have := HE.out; omega)]; rfl), _, rfl⟩
  · have b1 : ((xs.length : Int) != (ys.length : Int)) = true := by simp; omega
    have b2 : (xs.length == ys.length) = false := by simp [he]
    have C : Hid (decide (xs = ys) = false) := decide_eq_false (by rintro rfl; exact he rfl)
    clear he
    go_enter Tryd.func53, Tryd.ntmps53
    go_wp2
    go_ret
    exact ⟨ret_bool C.out.symm, Drawn.refl _⟩

end Go.Proofs.YtlchipjckgaclaaDoor

/- Sets as 256 bits in memory. -/
namespace Go.Proofs.YtlchipjckgaclaaDoor
set_option linter.unusedSimpArgs false
set_option linter.unusedVariables false
set_option maxRecDepth 100000
open Go.RowKit

/-! ### 256 bits -/
def bitCells (f : Nat → Bool) : List Value := (List.range 256).map fun i => .bool (f i)
theorem bitCells_length (f : Nat → Bool) : (bitCells f).length = 256 := by simp [bitCells]
theorem bitCells_get (f : Nat → Bool) (i : Nat) (h : i < 256) : (bitCells f)[i]? = some (.bool (f i)) := by simp [bitCells, h]
theorem bitCells_congr {f g : Nat → Bool} (h : ∀ i, i < 256 → f i = g i) : bitCells f = bitCells g := by
  unfold bitCells
  exact List.map_congr_left fun i hi => by rw [h i (List.mem_range.1 hi)]
theorem bitCells_set (f : Nat → Bool) (k : Nat) (b : Bool) : (bitCells f).set k (.bool b) = bitCells fun i => if i = k then b else f i := by
  apply List.ext_getElem?
  intro j
  rw [List.getElem?_set]
  by_cases hj : j < 256
  · have e := bitCells_get (fun i => if i = k then b else f i) _ hj
    rw [e, bitCells_length]
    by_cases hk : k = j
    · subst hk
      simp [hj]
    · rw [if_neg hk, bitCells_get _ _ hj, if_neg (fun e => hk e.symm)]
  · rw [List.getElem?_eq_none (by rw [bitCells_length]; omega : (bitCells fun i => if i = k then b else f i).length ≤ j), bitCells_length, List.getElem?_eq_none (by rw [bitCells_length]; omega : (bitCells f).length ≤ j)]
    split
    · rw [if_neg (by omega)]
    · rfl
theorem bitCells_one (f : Nat → Bool) : ∀ u ∈ bitCells f, u.oneCell' = true := by
  intro u hu
  obtain ⟨i, _, rfl⟩ := List.mem_map.1 hu
  rfl
end Go.Proofs.YtlchipjckgaclaaDoor

/- toSpanS, markSpanS, heldSpanS. -/
namespace Go.Proofs.YtlchipjckgaclaaDoor
set_option linter.unusedSimpArgs false
set_option linter.unusedVariables false
set_option maxRecDepth 100000
open Go.RowKit

set_option maxHeartbeats 1000000 in
theorem toSpanS_c (A : Option Addr) (c : Nat) (xs : List Sp) (w : World) {lo : Nat} (h : Sps w lo A c xs) (hx : xs.length ≤ 1048576) :
    Calls Tryd.prog 11 #[.slice A xs.length c] w fun e w' => ∃ v, e = .returned v ∧ OwnSp w' w.heap.size v xs ∧ Below w.heap.size w w' := by
  obtain ⟨i0, hi, hz0, hz1, hz2⟩ := info_parts infoSp
  go_enter Tryd.func11, Tryd.ntmps11
  go_wp2_with (at_make; refine wpList_make_full _ rfl (.tmp 6) (.tmp 6) 25 rfl w.heap.size TSp i0 (.agg #[.int .i64 0, .int .i64 0]) 2 Tryd.underlying25 hi hz0 hz1 .i64 .i64 _ _ xs.length rfl rfl rfl rfl (by rw [hz2]; omega) (by unfold maxLen; omega) (Nat.le_refl _) ?_; intro w1 hown hgrow)
  have HO : Hid (OwnSp w1 w.heap.size (.slice (some ⟨w.heap.size, 0, none⟩) xs.length xs.length) (xs.take 0 ++ List.replicate (xs.length - 0) ⟨0, 0⟩)) := by
    refine ⟨?_, by rw [take_rep_length _ _ _ (Nat.zero_le _)]; unfold maxN; omega⟩
    rw [take_rep_length _ _ _ (Nat.zero_le _), List.take_zero, List.nil_append, Nat.sub_zero, ← spcs_zeros]
    exact hown
  have HB : Hid (Below w.heap.size w w1) := (Below.refl _ w).grown hgrow (Nat.le_refl _) (fun k hk => by cases hk)
  clear hown hgrow hi hz0 hz1 hz2
  go_loopg [4] (xs.length) (fun n i wr => ∃ k : Nat, k + n = xs.length ∧ i = .int .i64 k ∧ Hid (OwnSp wr w.heap.size (.slice (some ⟨w.heap.size, 0, none⟩) xs.length xs.length) (xs.take k ++ List.replicate (xs.length - k) ⟨0, 0⟩)) ∧ Hid (Below w.heap.size w wr))
  case atStart => exact ⟨0, by omega, rfl, HO, HB⟩
  case round =>
    clear HO HB
    obtain ⟨k, hk, rfl, HO, HB⟩ := hrel
    by_cases hlt : k < xs.length
    · obtain ⟨a, x, rfl, HX, HD, h0, h1⟩ := (h.below HB.out).at_ k hlt
      go_wp2_with (go_at_call 42; refine (toSpan_c x _).mono ?_; rintro e w2 ⟨rfl, hb⟩; have HO2 : Hid _ := HO.out.below hb; have HB2 : Hid _ := below_then HB.out hb; obtain ⟨y, _, c0, c1, f0, f1⟩ := HO2.out.cells k (by rw [take_rep_length _ _ _ (by omega)]; exact hlt); clear HO HB hb)
      go_roundg (gk - 1)
      case rel =>
        refine ⟨k + 1, by omega, by go_num, ?_, below_set (below_set HB2.out (Nat.le_refl _) _) (Nat.le_refl _) _⟩
        have hs := HO2.out.set2 k x.lo x.hi
        rw [take_rep_set xs _ _ k hlt HX.out] at hs
        exact hs
      case measure => omega
    · go_wp2
      go_ret
      refine ⟨_, rfl, ?_, HB.out⟩
      have := HO.out
      rw [show k = xs.length by omega, List.take_length, Nat.sub_self, List.replicate_zero, List.append_nil] at this
      exact this

theorem OwnSp.slice {w : World} {base : Nat} {v : Value} {xs : List Sp} (h : OwnSp w base v xs) : ∃ A c, v = .slice A xs.length c := by
  obtain ⟨A, c, e, _⟩ := h.sps
  exact ⟨A, c, e⟩
theorem OwnSp.head {w : World} {base c : Nat} {A : Option Addr} {xs : List Sp} (h : OwnSp w base (.slice A xs.length c) xs) (hn : 0 < xs.length) : ∃ g, A = some ⟨g, 0, none⟩ ∧ base ≤ g := by
  obtain ⟨g, cap, e, hg, _⟩ := own_form h.own hn
  injection e with e1 e2 e3
  exact ⟨g, e1, hg⟩

/-- what is written: the row's own block alone -/
theorem grown_refl (w : World) (row : Option Nat) : w.grownBy w row := ⟨rfl, rfl, rfl, Nat.le_refl _, fun _ _ _ => rfl⟩
theorem grown_set {w w1 : World} {g : Nat} (h : w.grownBy w1 (some g)) (o : Nat) (u : Value) : w.grownBy (w1.setCell ⟨g, o, none⟩ u) (some g) :=
  ⟨h.os, h.tape, h.output, by rw [World.size_setCell]; exact h.size, fun k hk hne => (Below.heap_setCell w1 ⟨g, o, none⟩ u k (fun e => hne (by rw [e]))).trans (h.block k hk hne)⟩

set_option maxHeartbeats 1000000 in
theorem markSpanS_c (A : Option Addr) (c : Nat) (xs : List Sp) (q : Int) (w : World) {base : Nat} (h : OwnSp w base (.slice A xs.length c) xs) (h0 : 0 ≤ q) (h1 : q ≤ 1073741824) (hx : xs.length ≤ 1073741824) :
    Calls Tryd.prog 28 #[.slice A xs.length c, .int .i64 q] w fun e w' => e = .returned (.int .i64 (q + 2 * (xs.length : Int))) ∧ OwnSp w' base (.slice A xs.length c) (markSps q xs) ∧ w.grownBy w' (Value.slice A xs.length c).ownBlock := by
  go_enter Tryd.func28, Tryd.ntmps28
  go_wp2
  go_loopg [1, 5] (xs.length) (fun n q' i wr => ∃ k : Nat, k + n = xs.length ∧ i = .int .i64 k ∧ q' = .int .i64 (q + 2 * (k : Int)) ∧ Hid (OwnSp wr base (.slice A xs.length c) ((markSps q xs).take k ++ xs.drop k)) ∧ Hid (w.grownBy wr (Value.slice A xs.length c).ownBlock))
  case atStart => exact ⟨0, by omega, rfl, by simp, by simpa [Hid] using h, grown_refl _ _⟩
  case round =>
    obtain ⟨k, hk, rfl, rfl, HO, HG⟩ := hrel
    by_cases hlt : k < xs.length
    · obtain ⟨g, rfl, hg⟩ := h.head (by omega)
      have hl : ((markSps q xs).take k ++ xs.drop k).length = xs.length := by rw [List.length_append, List.length_take, List.length_drop, markSps_length]; omega
      obtain ⟨y, _, c0, c1, f0, f1⟩ := HO.out.cells k (by omega)
      have HL : Hid (_ = _) := hl
      have HH := Lib.hid h
      clear hl h
      go_wp2
      go_roundg (gk - 1)
      case rel =>
        refine ⟨k + 1, by omega, by go_num, by go_num, ?_, grown_set (grown_set HG.out _ _) _ _⟩
        have hs := HO.out.set2 k (q + 2 * (k : Int)) (q + 2 * (k : Int) + 1)
        rw [markSps_set xs q k hlt] at hs
        exact hs
      case measure => omega
    · go_wp2
      go_ret
      have hk' : k = xs.length := by omega
      refine ⟨ret_int (by omega), ?_, HG.out⟩
      have := HO.out
      rw [hk', List.drop_length, List.append_nil, List.take_of_length_le (by rw [markSps_length]; exact Nat.le_refl _)] at this
      exact this

set_option maxHeartbeats 1000000 in
theorem heldSpanS_c (A : Option Addr) (c : Nat) (xs ys : List Sp) (q : Int) (w : World) {lo : Nat} (hm : xs = markSps q ys) (h : Sps w lo A c xs) (h0 : 0 ≤ q) (h1 : q ≤ 1073741824) (hx : xs.length ≤ 1073741824) :
    Calls Tryd.prog 29 #[.slice A xs.length c, .int .i64 q] w fun e w' => e = .returned (.int .i64 (q + 2 * (xs.length : Int))) ∧ Drawn w w' := by
  have HM : Hid (xs = markSps q ys) := hm
  clear hm
  go_enter Tryd.func29, Tryd.ntmps29
  go_wp2
  go_loopg [1, 5] (xs.length) (fun n q' i wr => ∃ k : Nat, k + n = xs.length ∧ i = .int .i64 k ∧ q' = .int .i64 (q + 2 * (k : Int)) ∧ Drawn w wr)
  case atStart => exact ⟨0, by omega, rfl, by simp, Drawn.refl _⟩
  case round =>
    obtain ⟨k, hk, rfl, rfl, m, rfl⟩ := hrel
    by_cases hlt : k < xs.length
    · obtain ⟨a, x, rfl, HX, HD, c0, c1⟩ := h.at_ k hlt
      obtain rfl : x = ⟨q + 2 * (k : Int), q + 2 * (k : Int) + 1⟩ := by
        have e1 := HX.out
        have e2 := HM.out
        have e3 : k < ys.length := by rw [e2, markSps_length] at hlt; exact hlt
        rw [e2, markSps_get _ _ _ e3] at e1
        exact (Option.some.inj e1).symm
      go_wp2
      go_roundg (gk - 1)
      case rel => exact ⟨k + 1, by omega, by go_num, by go_num, _, rfl⟩
      case measure => omega
    · go_wp2
      go_ret
      exact ⟨ret_int (by omega), _, rfl⟩

end Go.Proofs.YtlchipjckgaclaaDoor

/- The reader of a code: pick, num, l15Open. -/
namespace Go.Proofs.YtlchipjckgaclaaDoor
set_option linter.unusedSimpArgs false
set_option linter.unusedVariables false
set_option maxRecDepth 100000
open Go.RowKit

abbrev TRd : Nat := 106
structure Rd (w : World) (g : Nat) (p : Nat) : Prop where
  ex : ∃ (A : Option Addr) (c : Nat) (bs : List Int), Blk w g #[.slice A bs.length c, .int .i64 p] TRd ∧ Bys w 0 A c bs ∧ (bs ≠ [] → ∀ a, A = some a → a.block < g) ∧ bs.length ≤ 2000
theorem CellsAt.moved {w w' : World} {a : Addr} {cs : List Value} (h : CellsAt w a cs) (he : w'.heap[a.block]? = w.heap[a.block]?) : CellsAt w' a cs := by
  intro j u hj
  have e : (a.add j).block = a.block := by unfold Addr.add; split <;> rfl
  rw [World.cell?_of_block (w := w) (by rw [e]; exact he)]
  exact h j u hj
theorem Rd.lt {w : World} {g p : Nat} (h : Rd w g p) : g < w.heap.size := by
  obtain ⟨A, c, bs, h1, _⟩ := h.ex
  exact h1.lt
theorem Rd.keep {w w' : World} {g p : Nat} (h : Rd w g p) (hk : ∀ k, k ≤ g → w'.heap[k]? = w.heap[k]?) : Rd w' g p := by
  obtain ⟨A, c, bs, h1, h2, h3, h4⟩ := h.ex
  refine ⟨A, c, bs, ⟨(hk g (Nat.le_refl _)).trans h1.eq⟩, ⟨?_, h2.cap, h2.len, h2.byte⟩, h3, h4⟩
  rcases h2.row with h5 | ⟨a, e, h6, h7⟩
  · exact .inl h5
  · by_cases hb : bs = []
    · exact .inl (by rw [hb]; rfl)
    · exact .inr ⟨a, e, h6, CellsAt.moved h7 (hk _ (Nat.le_of_lt (h3 hb a e)))⟩
theorem Rd.grown {w w' : World} {g p : Nat} (h : Rd w g p) {row : Option Nat} (hg : w.grownBy w' row) (hr : ∀ k, row = some k → g < k) : Rd w' g p :=
  h.keep fun k hk => hg.block k (by have := h.lt; omega) (fun e => by have := hr k e.symm; omega)
theorem Rd.below {w w' : World} {g p : Nat} (h : Rd w g p) (hb : Below w.heap.size w w') : Rd w' g p :=
  h.keep fun k hk => hb.block k (by have := h.lt; omega)
theorem Rd.step {w : World} {g p : Nat} (h : Rd w g p) (q : Nat) : Rd (w.setCell ⟨g, 1, none⟩ (.int .i64 q)) g q := by
  obtain ⟨A, c, bs, h1, h2, h3, h4⟩ := h.ex
  refine ⟨A, c, bs, ?_, ⟨?_, h2.cap, h2.len, h2.byte⟩, h3, h4⟩
  · have := h1.set 1 (.int .i64 q)
    simpa using this
  · rcases h2.row with h5 | ⟨a, e, h6, h7⟩
    · exact .inl h5
    · by_cases hb : bs = []
      · exact .inl (by rw [hb]; rfl)
      · exact .inr ⟨a, e, h6, CellsAt.moved h7 (Below.heap_setCell w _ _ _ (by have := h3 hb a e; show a.block ≠ g; omega))⟩
theorem grown_then {w w1 w2 : World} {row : Option Nat} (h : w.grownBy w1 row) (k : w1.grownBy w2 row) : w.grownBy w2 row :=
  ⟨k.os.trans h.os, k.tape.trans h.tape, k.output.trans h.output, Nat.le_trans h.size k.size, fun i hi hne => (k.block i (Nat.lt_of_lt_of_le hi h.size) hne).trans (h.block i hi hne)⟩
theorem grown_below {w w1 : World} {row : Option Nat} (h : Below w.heap.size w w1) : w.grownBy w1 row :=
  ⟨h.os, h.tape, h.output, h.size, fun i hi _ => h.block i hi⟩

theorem i64_xor {a b : Int} (ha : 0 ≤ a) (ha' : a < 9223372036854775808) (hb : 0 ≤ b) (hb' : b < 9223372036854775808) : ∃ m : Nat, bits .xor .i64 a b = m ∧ m < 9223372036854775808 := by
  obtain ⟨x, rfl⟩ := Int.eq_ofNat_of_zero_le ha
  obtain ⟨y, rfl⟩ := Int.eq_ofNat_of_zero_le hb
  have hx : x ^^^ y < 2 ^ 63 := Nat.xor_lt_two_pow (by omega) (by omega)
  have h1 : (BitVec.ofInt 64 (x : Int)).toNat = x := by
    rw [BitVec.ofInt_natCast, BitVec.toNat_ofNat]; exact Nat.mod_eq_of_lt (by omega)
  have h2 : (BitVec.ofInt 64 (y : Int)).toNat = y := by
    rw [BitVec.ofInt_natCast, BitVec.toNat_ofNat]; exact Nat.mod_eq_of_lt (by omega)
  refine ⟨x ^^^ y, ?_, by omega⟩
  show IntKind.i64.wrap ((BitVec.ofInt 64 (x : Int) ^^^ BitVec.ofInt 64 (y : Int)).toNat : Int) = _
  rw [BitVec.toNat_xor, h1, h2]
  exact IntWalk.i64_in _ (by omega)

theorem Bys.at_ {w : World} {lo : Nat} {A : Option Addr} {c : Nat} {bs : List Int} (h : Bys w lo A c bs) (k : Nat) (hk : k < bs.length) :
    ∃ a z, A = some a ∧ w.cell? (a.add k) = some (.int .u8 z) ∧ 0 ≤ z ∧ z < 256 := by
  rcases h.row with h0 | ⟨a, e, _, hc⟩
  · have := congrArg List.length h0
    simp at this
    subst this
    simp at hk
  · have := h.byte bs[k] (List.getElem_mem hk)
    exact ⟨a, bs[k], e, hc k _ (by simp [hk]), this.1, this.2⟩

theorem tmod_lo {a n : Int} (h : 0 ≤ a) : 0 ≤ a.tmod n := Int.tmod_nonneg n h
theorem tmod_hi {a n : Int} (h : 1 ≤ n) : a.tmod n < n := Int.tmod_lt_of_pos a (by omega)
theorem tmod_nat (a n : Nat) (h : 0 < n) : ∃ k : Nat, (a : Int).tmod (n : Int) = k ∧ k < n := ⟨a % n, by rw [Int.ofNat_tmod], Nat.mod_lt _ h⟩
theorem tdiv_nat (a n : Nat) : ∃ k : Nat, (a : Int).tdiv (n : Int) = k ∧ k ≤ a := ⟨a / n, by rw [Int.ofNat_tdiv], Nat.div_le_self _ _⟩

set_option maxHeartbeats 2000000 in
theorem pick_c (g p : Nat) (n : Int) (w : World) (h : Rd w g p) (hn : 1 ≤ n) (hn2 : n ≤ 1000000) (hp : p ≤ 1000000) :
    Calls Tryd.prog 69 #[.pointer (some ⟨g, 0, none⟩), .int .i64 n] w fun e w' => ∃ r : Int, e = .returned (.int .i64 r) ∧ 0 ≤ r ∧ r < n ∧ Rd w' g (p + 1) ∧ w.grownBy w' (some g) := by
  obtain ⟨A, c, bs, h1, h2, h3, h4⟩ := h.ex
  have c0 : w.cell? ⟨g, 0, none⟩ = some (.slice A bs.length c) := by rw [h1.cell]; rfl
  have c1 : w.cell? ⟨g, 1, none⟩ = some (.int .i64 p) := by rw [h1.cell]; rfl
  have f1 : w.frozen? ⟨g, 1, none⟩ = false := h1.free 1
  have HR : Hid (Rd (w.setCell ⟨g, 1, none⟩ (.int .i64 ((p : Int) + 1))) g (p + 1)) := h.step (p + 1)
  have HG : Hid (w.grownBy (w.setCell ⟨g, 1, none⟩ (.int .i64 ((p : Int) + 1))) (some g)) := grown_set (grown_refl w _) 1 _
  have HY : Hid (Bys (w.setCell ⟨g, 1, none⟩ (.int .i64 ((p : Int) + 1))) 0 A c bs) := by
    refine ⟨?_, h2.cap, h2.len, h2.byte⟩
    rcases h2.row with h5 | ⟨a, e, h6, h7⟩
    · exact .inl h5
    · by_cases hb : bs = []
      · exact .inl (by rw [hb]; rfl)
      · exact .inr ⟨a, e, h6, CellsAt.moved h7 (Below.heap_setCell w _ _ _ (by have := h3 hb a e; show a.block ≠ g; omega))⟩
  clear h h1 h2 h3
  by_cases hl : bs.length = 0
  · have b0 : ((bs.length : Int) == 0) = true := by simp [hl]
    have HL := Lib.hid hl
    clear hl
    go_enter Tryd.func69, Tryd.ntmps69
    go_wp2
    go_ret
    exact ⟨0, rfl, by omega, by omega, HR.out, HG.out⟩
  · have b0 : ((bs.length : Int) == 0) = false := by simp [hl]
    by_cases hk : p < bs.length
    · obtain ⟨a, z, rfl, c2, z0, z1⟩ := HY.out.at_ p hk
      clear hl
      go_enter Tryd.func69, Tryd.ntmps69
      go_wp2
      go_ret
      exact ⟨_, rfl, Int.emod_nonneg _ (by omega), Int.emod_lt_of_pos _ (by omega), HR.out, HG.out⟩
    · have hl' : 0 < bs.length := by omega
      obtain ⟨k1, e1, h1⟩ := tmod_nat p bs.length hl'
      obtain ⟨k2, e2, h2⟩ := tmod_nat (p * 7 + 3) bs.length hl'
      rw [show ((p * 7 + 3 : Nat) : Int) = (p : Int) * 7 + 3 by omega] at e2
      obtain ⟨k3, e3, h3⟩ := tdiv_nat p bs.length
      obtain ⟨a, z, rfl, c2, z0, z1⟩ := HY.out.at_ k1 h1
      obtain ⟨a', y, e, c3, y0, y1⟩ := HY.out.at_ k2 h2
      cases e
      have hne : ¬ bs = [] := by rintro rfl; simp at hl'
      have w0 : IntKind.i64.wrap z = z := IntWalk.i64_in _ (by omega)
      have w0' : IntKind.i64.wrap y = y := IntWalk.i64_in _ (by omega)
      have w1 : IntKind.i64.wrap ((p : Int) * 7) = (p : Int) * 7 := IntWalk.i64_in _ (by omega)
      have w2 : IntKind.i64.wrap ((p : Int) * 7 + 3) = (p : Int) * 7 + 3 := IntWalk.i64_in _ (by omega)
      have w3 : IntKind.i64.wrap (z * 131) = z * 131 := IntWalk.i64_in _ (by omega)
      have w4 : IntKind.i64.wrap (y * 1117) = y * 1117 := IntWalk.i64_in _ (by omega)
      have w5 : IntKind.i64.wrap (z * 131 + y * 1117) = z * 131 + y * 1117 := IntWalk.i64_in _ (by omega)
      have w6 : IntKind.i64.wrap ((p : Int) * 29) = (p : Int) * 29 := IntWalk.i64_in _ (by omega)
      have w7 : IntKind.i64.wrap (z * 131 + y * 1117 + (p : Int) * 29) = z * 131 + y * 1117 + (p : Int) * 29 := IntWalk.i64_in _ (by omega)
      have w8 : IntKind.i64.wrap ((k3 : Int) * 53) = (k3 : Int) * 53 := IntWalk.i64_in _ (by omega)
      have w9 : IntKind.i64.wrap (z * 131 + y * 1117 + (p : Int) * 29 + (k3 : Int) * 53) = z * 131 + y * 1117 + (p : Int) * 29 + (k3 : Int) * 53 := IntWalk.i64_in _ (by omega)
      obtain ⟨X, hX⟩ : ∃ X, X = z * 131 + y * 1117 + (p : Int) * 29 + (k3 : Int) * 53 := ⟨_, rfl⟩
      rw [← hX] at w9
      have hX0 : 0 ≤ X := by omega
      have hX1 : X < 100000000 := by omega
      have HX := Lib.hid hX
      clear hX hl
      go_enter Tryd.func69, Tryd.ntmps69
      go_wp2
      go_quiet (fail)
      clear w0 w0' w1 w2 w3 w4 w5 w6 w7 w8 w9 e1 e2 e3 c2 c3
      rw [← HX.out]
      have q0 : 0 ≤ X / 64 := by omega
      have q1 : X / 64 < 9223372036854775808 := by omega
      obtain ⟨m, hm, hm1⟩ := i64_xor hX0 (by omega) q0 q1
      clear q0 q1
      go_wp2
      go_ret
      exact ⟨_, rfl, Int.emod_nonneg _ (by omega), Int.emod_lt_of_pos _ (by omega), HR.out.below (below_drewN (Below.refl _ _) _), grown_then HG.out (grown_below (below_drewN (Below.refl _ _) _))⟩

theorem num_c (g p b c : Nat) (zs : List Int) (lo hi : Int) (w : World) (h : Rd w g p) (hc : CellsAt w ⟨b, 0, none⟩ (zs.map fun z => .int .i64 z)) (hbg : b ≠ g) (hb : b < w.heap.size) (hz : ∀ z ∈ zs, lo ≤ z ∧ z ≤ hi) (hl : 0 < zs.length) (hl2 : zs.length ≤ 1000000) (hp : p ≤ 1000000) :
    Calls Tryd.prog 84 #[.pointer (some ⟨g, 0, none⟩), .slice (some ⟨b, 0, none⟩) zs.length c] w fun e w' => ∃ r : Int, e = .returned (.int .i64 r) ∧ lo ≤ r ∧ r ≤ hi ∧ Rd w' g (p + 1) ∧ w.grownBy w' (some g) := by
  go_enter Tryd.func84, Tryd.ntmps84
  go_wp2_with fail
  refine (pick_c g p _ _ h (by omega) (by omega) hp).mono ?_
  rintro e w1 ⟨r, rfl, r0, r1, HR, HG⟩
  obtain ⟨k, rfl⟩ := Int.eq_ofNat_of_zero_le r0
  have hk : k < zs.length := by omega
  have c1 : w1.cell? ⟨b, k, none⟩ = some (.int .i64 zs[k]) := by
    have e0 : (⟨b, 0, none⟩ : Addr).add k = ⟨b, k, none⟩ := by unfold Addr.add; split <;> simp_all
    rw [World.cell?_of_block (w := w) (HG.block b hb (by simpa using hbg)), ← e0]
    exact hc k _ (by simp [hk])
  have hzk := hz zs[k] (List.getElem_mem hk)
  have hR := Lib.hid HR
  have hG := Lib.hid HG
  obtain ⟨z, hz1⟩ : ∃ z, zs[k] = z := ⟨_, rfl⟩
  rw [hz1] at c1 hzk
  clear HR HG hz hz1
  go_wp2
  go_ret
  exact ⟨z, rfl, hzk.1, hzk.2, hR.out, hG.out⟩

theorem open_c (A : Option Addr) (c : Nat) (bs : List Int) (w : World) (h : Bys w 0 A c bs) :
    Calls Tryd.prog 52 #[.slice A bs.length c] w fun e w' => ∃ g, e = .returned (.pointer (some ⟨g, 0, none⟩)) ∧ Rd w' g 0 ∧ w.heap.size ≤ g ∧ Below w.heap.size w w' := by
  have hlt : bs ≠ [] → ∀ a, A = some a → a.block < w.heap.size := by
    intro hb a e
    subst e
    obtain ⟨a', z, e, h1, _⟩ := h.at_ 0 (List.length_pos_iff.2 hb)
    cases e
    have := World.block_lt_of_cell? w _ h1
    simpa [Addr.add] using this
  have hcap := h.cap
  have hlen := h.len
  unfold maxN at hlen
  by_cases hl : (2000 : Int) < bs.length
  · have e1 : (bs.take 2000).length = 2000 := by rw [List.length_take]; omega
    have HT : Hid (Bys w 0 A c (bs.take 2000)) := by
      refine ⟨?_, by omega, by rw [e1]; unfold maxN; omega, fun z hz => h.byte z (List.mem_of_mem_take hz)⟩
      rcases h.row with h5 | ⟨a, e, h6, h7⟩
      · exact .inl (by rw [List.map_eq_nil_iff] at h5; subst h5; simp)
      · refine .inr ⟨a, e, h6, fun j u hj => h7 j u ?_⟩
        rw [List.map_take, List.getElem?_take] at hj
        split at hj
        · exact hj
        · cases hj
    have HB := Lib.hid (blk_new w #[.slice A 2000 c, .int .i64 0] TRd)
    have HL := Lib.hid hlt
    have E1 := Lib.hid e1
    have hA : ∃ a, A = some a := by
      obtain ⟨a', _, e, _⟩ := h.at_ 0 (by omega)
      exact ⟨a', e⟩
    obtain ⟨a, rfl⟩ := hA
    have HN : Hid (bs ≠ []) := by rintro rfl; simp at hl
    clear hlt h e1
    go_enter Tryd.func52, Tryd.ntmps52
    go_wp2
    go_ret
    refine ⟨w.heap.size, rfl, ⟨some a, c, bs.take 2000, ?_, HT.out.below (below_alloc (Below.refl _ _) _), fun _ a' e => HL.out HN.out a' e, by rw [E1.out]; exact Nat.le_refl _⟩, Nat.le_refl _, below_alloc (Below.refl _ _) _⟩
    rw [E1.out]
    exact HB.out
  · have HB := Lib.hid (blk_new w #[.slice A bs.length c, .int .i64 0] TRd)
    have HL := Lib.hid hlt
    have HH := Lib.hid h
    clear hlt h
    go_enter Tryd.func52, Tryd.ntmps52
    go_wp2
    go_ret
    exact ⟨w.heap.size, rfl, ⟨A, c, bs, HB.out, HH.out.below (below_alloc (Below.refl _ _) _), fun hb a e => HL.out hb a e, by omega⟩, Nat.le_refl _, below_alloc (Below.refl _ _) _⟩

theorem min_c (a b : Int) (w : World) :
    Calls Tryd.prog 102 #[.int .i64 a, .int .i64 b] w fun e w' => e = .returned (.int .i64 (if a < b then a else b)) ∧ w = w' := by
  go_enter Tryd.func102, Tryd.ntmps102
  by_cases h : a < b
  · rw [if_pos h]
    go_wp2
    go_ret
    exact ⟨rfl, rfl⟩
  · rw [if_neg h]
    go_wp2
    go_ret
    exact ⟨rfl, rfl⟩

end Go.Proofs.YtlchipjckgaclaaDoor

/- in, SetHas. -/
namespace Go.Proofs.YtlchipjckgaclaaDoor
set_option linter.unusedSimpArgs false
set_option linter.unusedVariables false
set_option maxRecDepth 100000
open Go.RowKit

theorem in_c (n lo hi : Int) (w : World) :
    Calls Tryd.prog 71 #[.int .i64 n, .int .i64 lo, .int .i64 hi] w fun e w' => e = .returned (.bool (decide (lo ≤ n) && decide (n ≤ hi))) ∧ w = w' := by
  go_enter Tryd.func71, Tryd.ntmps71
  go_wp2
  all_goals go_ret
  · exact ⟨ret_bool (by rw [decide_eq_true (by assumption : lo ≤ n)]; rfl), rfl⟩
  · exact ⟨ret_bool (by rw [decide_eq_false (by omega : ¬ lo ≤ n)]; rfl), rfl⟩

theorem spIn_true {x : Sp} {b : Int} (h : x.lo ≤ b ∧ b ≤ x.hi) : spIn x b = true := (spIn_iff x b).2 h
theorem spIn_false {x : Sp} {b : Int} (h : b < x.lo ∨ x.hi < b) : spIn x b = false := by
  rw [Bool.eq_false_iff]
  intro hc
  have := (spIn_iff x b).1 hc
  omega

theorem iSetHas_c (A : Option Addr) (c : Nat) (xs : List Sp) (b : Int) (w : World) {lo : Nat} (h : Sps w lo A c xs) :
    Calls Tryd.prog 36 #[.slice A xs.length c, .int .i64 b] w fun e w' => e = .returned (.bool (setHas xs b)) ∧ Below w.heap.size w w' := by
  have hlen := h.len
  unfold maxN at hlen
  go_enter Tryd.func36, Tryd.ntmps36
  go_wp2
  go_loopg [9] (xs.length) (fun n i wr => ∃ k : Nat, k + n = xs.length ∧ i = .int .i64 k ∧ Hid (setHas (xs.drop k) b = setHas xs b) ∧ Below w.heap.size w wr)
  case atStart => exact ⟨0, by omega, rfl, by rw [List.drop_zero]; rfl, Below.refl _ _⟩
  case round =>
    obtain ⟨k, hk, rfl, HS, hb⟩ := hrel
    by_cases hlt : k < xs.length
    · obtain ⟨a, x, rfl, _, HD, h0, h1⟩ := (h.below hb).at_ k hlt
      go_wp2_with (go_at_call 71; refine (in_c _ _ _ _).mono ?_; rintro e w' ⟨rfl, rfl⟩)
      · go_ret
        exact ⟨ret_bool (by rw [← HS.out, HD.out, setHas_cons, spIn_true (by assumption)]; rfl), below_alloc hb _⟩
      · go_roundg (gk - 1)
        case rel => exact ⟨k + 1, by omega, by go_num, by rw [← HS.out, HD.out, setHas_cons, spIn_false (by assumption)]; rfl, below_alloc hb _⟩
        case measure => omega
    · go_wp2
      go_ret
      exact ⟨ret_bool (by rw [← HS.out, List.drop_of_length_le (by omega)]; rfl), hb⟩

end Go.Proofs.YtlchipjckgaclaaDoor

/- copied, at spans: the same cells in new memory. -/
namespace Go.Proofs.YtlchipjckgaclaaDoor
set_option linter.unusedSimpArgs false
set_option linter.unusedVariables false
set_option maxRecDepth 100000
open Go.RowKit

theorem sizeSp : (Tryd.prog.info? TSp).map (·.size) = some 2 := by kernel_rfl
/-- a row copied: the same cells in new memory -/
theorem copiedSpan_c (A : Option Addr) (c n : Nat) (cs : List Value) (w : World) {lo : Nat} (h : Row w lo A cs) (hn : cs.length = n * 2) (h1 : ∀ u ∈ cs, u.oneCell' = true) (hx : n * 16 ≤ 140737488355328) :
    Calls Tryd.prog 66 #[.slice A n c] w fun e w' => ∃ v, e = .returned v ∧ w'.ownsRow w.heap.size TSp 2 v n cs ∧ Below w.heap.size w w' := by
  by_cases h0 : n = 0
  · subst h0
    go_enter Tryd.func66, Tryd.ntmps66
    go_wp2
    go_ret
    have : cs = [] := by simpa using hn
    subst this
    exact ⟨_, rfl, World.ownsRow_nil _ _ _ _, Below.refl _ _⟩
  · obtain ⟨i0, hi, hz0, hz1, hz2⟩ := info_parts infoSp
    have b0 : ((n : Int) == 0) = false := by simp [h0]
    have h0' : 0 < n := by omega
    clear h0
    rcases h with rfl | ⟨ad, rfl, _, hc⟩
    · simp at hn; omega
    have HN : Hid (cs.length = n * 2) := hn
    clear hn
    go_enter Tryd.func66, Tryd.ntmps66
    go_wp2_with (first
      | (at_make; refine wpList_make_full _ rfl (.tmp 8) (.tmp 8) 25 rfl w.heap.size TSp i0 (.agg #[.int .i64 0, .int .i64 0]) 2 Tryd.underlying25 hi hz0 hz1 .i64 .i64 _ _ n rfl rfl rfl rfl (by rw [hz2]; omega) (by unfold maxLen; omega) (Nat.le_refl _) ?_; intro w1 hown hgrow; obtain ⟨cur, hB, hsz, _⟩ := own_blk hown; have hb1 := (Below.refl _ w).grown hgrow (Nat.le_refl _) (fun k hk => by cases hk); have hc1 := hc.below hb1; clear hown hgrow; have HS : Hid (cur.size = n * 2) := hsz; clear hsz)
      | (with_reducible refine ev_copy (o := ⟨some 12, _, _, _, _, _⟩) rfl (.tmp 10) (.tmp 11) _ _ rfl TSp Tryd.underlying25 2 sizeSp w.heap.size n n _ ad rfl rfl cur TSp hB cs HN.out hc1 (by rw [HN.out, HS.out]; exact Nat.le_refl _) h1 ?_; intro w2 hB2 hg2))
    go_ret
    have e : cur.toList.drop cs.length = [] := List.drop_of_length_le (by rw [Array.length_toList, HN.out, HS.out]; exact Nat.le_refl _)
    rw [e, List.append_nil] at hB2
    exact ⟨_, rfl, own_of_blk hB2 HN.out (Nat.le_refl _) (by unfold maxLen; omega), hb1.grown hg2 hb1.size (fun k hk => by injection hk with hk; omega)⟩

end Go.Proofs.YtlchipjckgaclaaDoor

/- bitsOf: the bits of a set. -/
namespace Go.Proofs.YtlchipjckgaclaaDoor
set_option linter.unusedSimpArgs false
set_option linter.unusedVariables false
set_option maxRecDepth 100000
open Go.RowKit

end Go.Proofs.YtlchipjckgaclaaDoor

/- spans: the set of bits. -/
namespace Go.Proofs.YtlchipjckgaclaaDoor
set_option linter.unusedSimpArgs false
set_option linter.unusedVariables false
set_option maxRecDepth 100000
open Go.RowKit

end Go.Proofs.YtlchipjckgaclaaDoor

/- spec.l1Of: the spans of 256 marks. -/
namespace Go.Proofs.YtlchipjckgaclaaDoor
set_option linter.unusedSimpArgs false
set_option linter.unusedVariables false
set_option maxRecDepth 100000
open Go.RowKit

theorem bitr_cell {w : World} {g t : Nat} {f : Nat → Bool} (h : Blk w g (bitCells f).toArray t) (k : Nat) (hk : k < 256) : w.cell? ⟨g, k, none⟩ = some (.bool (f k)) := by
  rw [h.cell]
  simpa using bitCells_get f k hk
theorem bitr_set {w : World} {g t : Nat} {f : Nat → Bool} (h : Blk w g (bitCells f).toArray t) (k : Nat) (b : Bool) : Blk (w.setCell ⟨g, k, none⟩ (.bool b)) g (bitCells fun i => if i = k then b else f i).toArray t := by
  have := h.set k (.bool b)
  rw [show (bitCells f).toArray.setIfInBounds k (.bool b) = ((bitCells f).set k (.bool b)).toArray by simp, bitCells_set] at this
  exact this
theorem spansTo_hi {f : Nat → Bool} {n : Nat} (hn : n ≤ 256) {x : Sp} (hl : 0 < (spansTo f n).length) (hx : (spansTo f n)[(spansTo f n).length - 1]? = some x) :
    0 ≤ x.hi ∧ x.hi ≤ 255 ∧ (x.hi = (n : Int) - 1 → 0 < n ∧ f (n - 1) = true) := by
  have h := upto_spans f n hn
  have hlast : (spansTo f n).getLast? = some x := by rw [List.getLast?_eq_getElem?]; exact hx
  have b := setOk_last h.ok hlast
  refine ⟨by omega, b.2.2, fun e => ?_⟩
  obtain ⟨ys, hys⟩ := List.getLast?_eq_some_iff.1 hlast
  have hin : setHas (spansTo f n) x.hi = true := by
    rw [hys, setHas_append]
    simp [setHas_cons, spIn]
    right; omega
  obtain ⟨k, hk, hf, hke⟩ := (h.has _).1 hin
  obtain rfl : k = n - 1 := by omega
  exact ⟨by omega, hf⟩
theorem own_empty (w : World) : OwnSp (w.alloc (.cells #[] TSp)) w.heap.size (.slice (some ⟨w.heap.size, 0, none⟩) 0 0) [] :=
  ⟨own_of_blk (cs := []) (n := 0) (blk_new w #[] TSp) (by simp) (Nat.le_refl _) (by decide), by simp⟩

set_option maxRecDepth 100000 in
set_option maxHeartbeats 2000000 in
theorem sl1Of_c (f : Nat → Bool) (g : Nat) (w : World) (h : Blk w g (bitCells f).toArray 4) :
    Calls Tryd.prog 103 #[.slice (some ⟨g, 0, none⟩) 256 256] w fun e w' => ∃ v, e = .returned v ∧ OwnSp w' w.heap.size v (spansOf f) ∧ Below w.heap.size w w' := by
  obtain ⟨i0, hi, hz0, hz1, hz2⟩ := info_parts infoSp
  have HO := Lib.hid (own_empty w)
  have HB := Lib.hid (below_alloc (Below.refl w.heap.size w) (.cells #[] TSp))
  have HX := Lib.hid h
  clear h
  go_enter Tryd.func103, Tryd.ntmps103
  go_wp2
  go_loopg [3, 4] 256 (fun n v i wr => ∃ k : Nat, Hid (k + n = 256) ∧ i = .int .i64 k ∧ Hid (OwnSp wr w.heap.size v (spansTo f k)) ∧ Hid (Below w.heap.size w wr))
  case atStart => exact ⟨0, rfl, rfl, HO, HB⟩
  case round =>
    clear HO HB
    obtain ⟨k, hk, rfl, HO, HB⟩ := hrel
    by_cases hk2 : k < 256
    · have c2 := bitr_cell (HX.out.below HB.out) k hk2
      have hlen := spansTo_length f k
      by_cases hf : f k = true
      · rw [hf] at c2
        have e0 : IntKind.i64.wrap ((k : Int) - 1) = (k : Int) - 1 := IntWalk.i64_in _ (by omega)
        by_cases hl : 0 < (spansTo f k).length
        · obtain ⟨g', cap, rfl, hg, _⟩ := own_form HO.out.own hl
          obtain ⟨x, HX1, c0, c1, f0, f1⟩ := HO.out.cells ((spansTo f k).length - 1) (by omega)
          have hh := spansTo_hi (f := f) (n := k) (by omega) hl HX1.out
          have d4 : decide (0 < (spansTo f k).length) = true := decide_eq_true hl
          have e1 : IntKind.i64.wrap (((spansTo f k).length : Int) - 1) = ((spansTo f k).length : Int) - 1 := IntWalk.i64_in _ (by omega)
          have e2 : (0 : Int) ≤ ((spansTo f k).length : Int) - 1 := by omega
          have e3 : ((spansTo f k).length : Int) - 1 < ((spansTo f k).length : Int) := by omega
          have e4 : (((spansTo f k).length : Int) - 1).toNat = (spansTo f k).length - 1 := by omega
          have e5 : (1 : Int) ≤ ((spansTo f k).length : Int) := by omega
          by_cases hx : x.hi = (k : Int) - 1
          · have hp := hh.2.2 hx
            obtain ⟨y, hy1, _, _, hy4⟩ := spansTo_ext hf hp.1 hp.2 (by omega)
            obtain rfl : x = y := by
              have := HX1.out
              rw [hy1] at this
              exact (Option.some.inj this).symm
            have E : Hid (spansTo f (k + 1) = (spansTo f k).set ((spansTo f k).length - 1) ⟨x.lo, k⟩) := hy4
            have d5 : (x.hi == (k : Int) - 1) = true := by rw [hx]; simp
            clear hf hp hy1 hy4 hh hx hl
            go_wp2
            go_roundg (gk - 1)
            case rel => exact ⟨k + 1, by have := hk.out; show _ = _; omega, by go_num, by rw [E.out]; exact HO.out.setHi _ x HX1.out _, below_set HB.out (by simp; omega) _⟩
            case measure => have := hk.out; omega
          · have hp' : k = 0 ∨ f (k - 1) = false := by
              rcases Nat.eq_zero_or_pos k with h0 | h0
              · exact .inl h0
              · refine .inr ?_
                rw [Bool.eq_false_iff]
                intro hc
                obtain ⟨y, hy1, _, hy3, _⟩ := spansTo_ext hf h0 hc (by omega)
                have := HX1.out
                rw [hy1] at this
                obtain rfl := Option.some.inj this
                exact hx hy3
            have E : Hid (spansTo f (k + 1) = spansTo f k ++ [⟨k, k⟩]) := spansTo_new hf hp'
            have d5 : (x.hi == (k : Int) - 1) = false := by simp [hx]
            have hsz := HB.out.size
            clear hf hp' hh hx hl
            go_wp2_with (at_builtin; refine wpList_append_own _ rfl (.tmp 37) (.tmp 41) 25 rfl w.heap.size TSp i0 (.agg #[.int .i64 0, .int .i64 0]) 2 16 Tryd.underlying25 hi hz0 hz1 hz2 rfl (by decide) _ _ _ rfl (HO.out.own.alloc _) ⟨wr.heap.size, 0, none⟩ 1 1 [.int .i64 k, .int .i64 k] rfl rfl (new_cells wr [.int .i64 k, .int .i64 k] TSp) (two_one _ _) (by unfold maxLen; omega) (by omega) (by simp; omega) ?_; intro v' w2 hown' hgrow _)
            have hbs := own_base HO.out.own
            go_roundg (gk - 1)
            case rel => exact ⟨k + 1, by have := hk.out; show _ = _; omega, by go_num, by rw [E.out]; exact OwnSp.snoc hown', (below_alloc HB.out _).grown hgrow (by simp; omega) (fun q hq => by have := (hbs q hq).1; omega)⟩
            case measure => have := hk.out; omega
        · have hsz := HB.out.size
          have h0 : (spansTo f k).length = 0 := by omega
          have hp' : k = 0 ∨ f (k - 1) = false := by
            rcases Nat.eq_zero_or_pos k with h0' | h0'
            · exact .inl h0'
            · refine .inr ?_
              rw [Bool.eq_false_iff]
              intro hc
              obtain ⟨y, _, hy2, _, _⟩ := spansTo_ext hf h0' hc (by omega)
              omega
          have E : Hid (spansTo f (k + 1) = spansTo f k ++ [⟨k, k⟩]) := spansTo_new hf hp'
          obtain ⟨A, c, rfl, _⟩ := HO.out.sps
          have d4 : decide (0 < (spansTo f k).length) = false := decide_eq_false hl
          have HH := Lib.hid h0
          clear hf hp' hl h0
          go_wp2_with (at_builtin; refine wpList_append_own _ rfl (.tmp 37) (.tmp 41) 25 rfl w.heap.size TSp i0 (.agg #[.int .i64 0, .int .i64 0]) 2 16 Tryd.underlying25 hi hz0 hz1 hz2 rfl (by decide) _ _ _ rfl (HO.out.own.alloc _) ⟨wr.heap.size, 0, none⟩ 1 1 [.int .i64 k, .int .i64 k] rfl rfl (new_cells wr [.int .i64 k, .int .i64 k] TSp) (two_one _ _) (by unfold maxLen; omega) (by omega) (by simp; omega) ?_; intro v' w2 hown' hgrow _)
          have hbs := own_base HO.out.own
          go_roundg (gk - 1)
          case rel => exact ⟨k + 1, by have := hk.out; show _ = _; omega, by go_num, by rw [E.out]; exact OwnSp.snoc hown', (below_alloc HB.out _).grown hgrow (by simp; omega) (fun q hq => by have := (hbs q hq).1; omega)⟩
          case measure => have := hk.out; omega
      · have hf' : f k = false := by simpa using hf
        rw [hf'] at c2
        have E : Hid (spansTo f (k + 1) = spansTo f k) := spansTo_no hf'
        clear hf hf'
        go_wp2
        go_roundg (gk - 1)
        case rel => exact ⟨k + 1, by have := hk.out; show _ = _; omega, by go_num, by rw [E.out]; exact HO, HB⟩
        case measure => have := hk.out; omega
    · have HK : Hid (k = 256) := by have := hk.out; show _ = _; omega
      go_wp2
      go_ret
      have := HK.out
      subst this
      exact ⟨_, rfl, HO.out, HB.out⟩

end Go.Proofs.YtlchipjckgaclaaDoor

/- SetJoin, SetMeet, SetNot of the reference. (Printed by wip/gen/specops.py.) -/
namespace Go.Proofs.YtlchipjckgaclaaDoor
set_option linter.unusedSimpArgs false
set_option linter.unusedVariables false
set_option maxRecDepth 100000
open Go.RowKit

abbrev TB : Nat := 4
theorem infoBool : (Tryd.prog.info? TB).map (fun i => (i.zero, i.size, i.bytes)) = some (some (.bool false), 1, 1) := by kernel_rfl
theorem own_bits {w : World} {base g : Nat} (h : w.ownsRow base TB 1 (.slice (some ⟨g, 0, none⟩) 256 256) 256 (madeCells (Value.bool false).cells (256 * 1)).toList) : Blk w g (bitCells fun _ => false).toArray TB := by
  obtain ⟨cur, hb, hs, _, _, _, ht⟩ := own_blk h
  have e : cur = (bitCells fun _ => false).toArray := by
    apply Array.toList_inj.1
    rw [List.take_of_length_le (by rw [Array.length_toList, hs]; exact Nat.le_refl _)] at ht
    rw [ht]
    apply List.ext_getElem?
    intro j
    by_cases hj : j < 256
    · rw [bitCells_get _ _ hj]
      simp [madeCells, Value.cells, hj, Nat.mod_one]
    · rw [List.getElem?_eq_none (by simp [madeCells]; omega), List.getElem?_eq_none (by simp [bitCells_length]; omega)]
  rw [← e]; exact hb

end Go.Proofs.YtlchipjckgaclaaDoor

/- What draws a set: l1Set. -/
namespace Go.Proofs.YtlchipjckgaclaaDoor
set_option linter.unusedSimpArgs false
set_option linter.unusedVariables false
set_option maxRecDepth 100000
open Go.RowKit

theorem ints_new (w : World) (zs : List Int) (t : TypeId) : CellsAt (w.alloc (.cells (zs.map fun z => Value.int .i64 z).toArray t)) ⟨w.heap.size, 0, none⟩ (zs.map fun z => .int .i64 z) := new_cells w _ t
def L9 : List Int := [0, 48, 97, 97, 98, 99, 120, 254, 255]
def L7 : List Int := [0, 0, 1, 2, 9, 25, 200]

theorem grown_fresh {w w1 : World} {row : Option Nat} (h : w.grownBy w1 row) {b : Nat} (hb : w.heap.size ≤ b) (o : Nat) (u : Value) : w.grownBy (w1.setCell ⟨b, o, none⟩ u) row :=
  ⟨h.os, h.tape, h.output, by rw [World.size_setCell]; exact h.size, fun k hk hne => (Below.heap_setCell w1 ⟨b, o, none⟩ u k (by show k ≠ b; omega)).trans (h.block k hk hne)⟩

set_option maxRecDepth 100000 in
set_option maxHeartbeats 2000000 in
theorem l1Set_c (g p : Nat) (w : World) (h : Rd w g p) (hp : p ≤ 900000) :
    Calls Tryd.prog 90 #[.pointer (some ⟨g, 0, none⟩)] w fun e w' => ∃ f v q, e = .returned v ∧ OwnSp w' w.heap.size v (spansOf f) ∧ (∃ k, k < 256 ∧ f k = true) ∧ Rd w' g q ∧ q ≤ p + 10 ∧ w.grownBy w' (some g) := by
  obtain ⟨i0, hi, hz0, hz1, hz2⟩ := info_parts infoBool
  have hgw := h.lt
  go_enter Tryd.func90, Tryd.ntmps90
  go_wp2_with (at_make; refine wpList_make_full _ rfl _ _ 114 rfl w.heap.size TB i0 (.bool false) 1 Tryd.underlying114 hi hz0 hz1 .i64 .i64 _ _ 256 rfl rfl rfl rfl (by rw [hz2]; omega) (by unfold maxLen; omega) (Nat.le_refl _) ?_; intro w1 hown hgrow; have HX1 := Lib.hid (own_bits hown); have HR1 := Lib.hid (h.grown hgrow (fun k hk => by cases hk)); have HB1 := Lib.hid ((Below.refl _ w).grown hgrow (Nat.le_refl _) (fun k hk => by cases hk)); clear hown hgrow hi hz0 hz1 hz2 h; skip)
  refine (pick_c g p 3 _ HR1.out (by omega) (by omega) (by omega)).mono ?_
  rintro e w2 ⟨r, rfl, r0, r1, HR, HG⟩
  have HX := Lib.hid (HX1.out.grown HG (fun k hk => by injection hk with hk; omega))
  replace HR := Lib.hid HR
  replace HG := Lib.hid (grown_then (grown_below HB1.out) HG)
  obtain ⟨m, rfl⟩ := Int.eq_ofNat_of_zero_le r0
  clear HX1 HR1 HB1
  go_wp2
  go_loopg [4] (m + 1) (fun n i wr => i = .int .i64 n ∧ Hid (n ≤ m + 1) ∧ ∃ (f : Nat → Bool) (q : Nat), Hid (Blk wr w.heap.size (bitCells f).toArray TB) ∧ Hid (Rd wr g q) ∧ Hid (q + 2 * n ≤ p + 7) ∧ Hid (n = m + 1 ∨ ∃ k, k < 256 ∧ f k = true) ∧ Hid (w.grownBy wr (some g)))
  case atStart => exact ⟨by go_num, Nat.le_refl _, _, p + 1, HX, HR, by show _ ≤ _; omega, .inl rfl, HG⟩
  case round =>
    clear HX HR HG
    obtain ⟨rfl, hn, f, q, HX, HR, HQ, HE, HG⟩ := hrel
    by_cases hpos : 0 < gk
    · obtain ⟨gn, rfl⟩ : ∃ x, gk = x + 1 := ⟨gk - 1, by omega⟩
      have hgk : gn + 1 ≤ 3 := by have := hn.out; omega
      have hq0 : q ≤ 900010 := by have := HQ.out; omega
      have hl9 : L9.length = 9 := rfl
      go_wp2_with fail
      refine (num_c g q wr.heap.size 9 L9 0 255 _ (HR.out.below (below_alloc (Below.refl _ _) _)) (ints_new wr L9 _) (by have := HR.out.lt; omega) (by simp) (by decide) (by decide) (by decide) (by omega)).mono ?_
      rintro e w3 ⟨a, rfl, a0, a1, HR3, HG3⟩
      have HX3 := Lib.hid ((HX.out.alloc _).grown HG3 (fun k hk => by injection hk with hk; omega))
      have HT3 := Lib.hid (grown_then HG.out (grown_then (grown_below (below_alloc (Below.refl _ _) _)) HG3))
      replace HR3 := Lib.hid HR3
      clear HX HR HG HG3
      go_wp2_with fail
      refine (num_c g (q + 1) w3.heap.size 7 L7 0 200 _ (HR3.out.below (below_alloc (Below.refl _ _) _)) (ints_new w3 L7 _) (by have := HR3.out.lt; omega) (by simp) (by decide) (by decide) (by decide) (by omega)).mono ?_
      rintro e w4 ⟨r2, rfl, b0, b1, HR4, HG4⟩
      have HX4 := Lib.hid ((HX3.out.alloc _).grown HG4 (fun k hk => by injection hk with hk; omega))
      have HT4 := Lib.hid (grown_then HT3.out (grown_then (grown_below (below_alloc (Below.refl _ _) _)) HG4))
      replace HR4 := Lib.hid HR4
      clear HX3 HR3 HT3 HG4
      go_wp2_with fail
      refine (min_c _ _ _).mono ?_
      rintro e w5 ⟨rfl, rfl⟩
      obtain ⟨b, hb⟩ : ∃ b, b = (if (255 : Int) < a + r2 then 255 else a + r2) := ⟨_, rfl⟩
      rw [← hb]
      have hab : a ≤ b ∧ b ≤ 255 := by rw [hb]; split <;> omega
      clear hb
      obtain ⟨an, rfl⟩ := Int.eq_ofNat_of_zero_le a0
      obtain ⟨bn, rfl⟩ := Int.eq_ofNat_of_zero_le (show 0 ≤ b by omega)
      have hab1 : an ≤ bn := by omega
      have hab2 : bn ≤ 255 := by omega
      clear hab a0 a1 b0 b1
      go_wp2
      go_loopg [7] (bn + 1 - an) (fun n i wr => ∃ kk : Nat, i = .int .i64 kk ∧ kk + n = bn + 1 ∧ ∃ (f : Nat → Bool), Hid (Blk wr w.heap.size (bitCells f).toArray TB) ∧ Hid (Rd wr g (q + 2)) ∧ Hid (kk = an ∨ ∃ k, k < 256 ∧ f k = true) ∧ Hid (w.grownBy wr (some g)))
      case atStart => exact ⟨an, rfl, by omega, _, HX4, HR4, .inl rfl, HT4⟩
      case round =>
        clear HX4 HR4 HT4
        obtain ⟨kk, rfl, hkk, f', HX, HR, HE', HG⟩ := hrel
        by_cases hk : kk ≤ bn
        · have c0 := bitr_cell HX.out kk (by omega)
          have f0 := HX.out.free kk
          go_wp2
          go_roundg (gk - 1)
          case rel => exact ⟨kk + 1, by go_num, by omega, _, bitr_set HX.out kk _, HR.out.grown (grown_set (grown_refl _ _) _ _) (fun k hk => by injection hk with hk; omega), .inr ⟨kk, by omega, by simp⟩, grown_fresh HG.out (Nat.le_refl _) _ _⟩
          case measure => omega
        · go_wp2
          go_roundg gn
          case rel => exact ⟨by go_num, by have := hn.out; show _ ≤ _; omega, f', q + 2, HX, HR, by have := HQ.out; show _ ≤ _; omega, .inr (HE'.out.resolve_left (by omega)), HG⟩
          case measure => omega
    · go_wp2_with fail
      refine (sl1Of_c f _ _ HX.out).mono ?_
      rintro e w9 ⟨v9, rfl, o9, b9⟩
      go_wp2
      go_ret
      exact ⟨f, v9, q, rfl, o9.lower HG.out.size, HE.out.resolve_left (by omega), HR.out.below b9, by have := HQ.out; omega, grown_then HG.out (grown_below b9)⟩

end Go.Proofs.YtlchipjckgaclaaDoor

/- Marks and holds of results in memory. -/
namespace Go.Proofs.YtlchipjckgaclaaDoor
set_option linter.unusedSimpArgs false
set_option linter.unusedVariables false
set_option maxRecDepth 100000
open Go.RowKit

theorem OwnSp.row {w : World} {base c : Nat} {A : Option Addr} {xs ys : List Sp} (h : OwnSp w base (.slice A xs.length c) ys) : Sps w base A c ys := by
  obtain ⟨A', c', e, s⟩ := h.sps
  injection e with e1 e2 e3
  subst e1 e3
  exact s
theorem OwnSp.moved {w w1 : World} {base : Nat} {v : Value} {xs : List Sp} (h : OwnSp w base v xs) (hm : ∀ k, v.ownBlock = some k → w1.heap[k]? = w.heap[k]?) : OwnSp w1 base v xs := ⟨own_move h.own hm, h.len⟩
theorem held2_c (A : Option Addr) (c : Nat) (xs : List Sp) (q : Int) (w : World) {base : Nat} (h : OwnSp w base (.slice A xs.length c) (markSps q xs)) (h0 : 0 ≤ q) (h1 : q ≤ 1073741824) (hx : xs.length ≤ 1073741824) :
    Calls Tryd.prog 29 #[.slice A xs.length c, .int .i64 q] w fun e w' => e = .returned (.int .i64 (q + 2 * (xs.length : Int))) ∧ Drawn w w' := by
  have := heldSpanS_c A c (markSps q xs) xs q w rfl h.row h0 h1 (by rw [markSps_length]; exact hx)
  rw [markSps_length] at this
  exact this
theorem spansOf_len (f : Nat → Bool) : (spansOf f).length ≤ 256 := spansTo_length f 256
theorem setJoin_len (xs ys : List Sp) : (setJoin xs ys).length ≤ 256 := by
  unfold setJoin; split
  · exact spansOf_len _
  · simp
theorem setMeet_len (xs ys : List Sp) : (setMeet xs ys).length ≤ 256 := by
  unfold setMeet; split
  · exact spansOf_len _
  · simp
theorem setNot_len (xs : List Sp) : (setNot xs).length ≤ 256 := by
  unfold setNot; split
  · exact spansOf_len _
  · simp

end Go.Proofs.YtlchipjckgaclaaDoor
