/- Texts joined for the claims: W2 T1 W3 Blk OwnT T2 Cp Bw Mem SS1 M1 M2 M3 Tr M4. -/
import Derived.Test.YtplhbjpkkhhilaaG1
import Derived.Deep.RegionHeld3
/- spec.SetOk; the two comparisons of sets; sizes and copies of the laws' arguments. -/
namespace Go.Proofs.Ytplhbjpkkhhilaa
set_option linter.unusedSimpArgs false
set_option linter.unusedVariables false
open Go.RowKit

set_option maxHeartbeats 2000000 in
theorem sSetOk_c (A : Option Addr) (c : Nat) (xs : List Sp) (w : World) {lo : Nat} (h : Sps w lo A c xs) :
    Calls Try.prog 47 #[.slice A xs.length c] w fun e w' => e = .returned (.bool (setOk xs)) ∧ Drawn w w' := by
  have hlen := h.len
  unfold maxN at hlen
  go_enter Try.func47, Try.ntmps47
  go_wp2
  go_loopg [3] (xs.length) (fun n i wr => ∃ (k : Nat) (p : Option Int), k + n = xs.length ∧ i = .int .i64 k ∧ Hid (setOkGo p (xs.drop k) = setOk xs) ∧ Hid (PrevOk xs k p) ∧ Drawn w wr)
  case atStart => exact ⟨0, none, by omega, rfl, by rw [List.drop_zero]; rfl, .inl ⟨rfl, rfl⟩, 0, rfl⟩
  case round =>
    obtain ⟨k, p, hk, rfl, HS, HP, m, rfl⟩ := hrel
    by_cases hlt : k < xs.length
    · obtain ⟨a, x, rfl, HX, HD, h0, h1⟩ := h.at_ k hlt
      have ST : Hid _ := setOkGo_step HD.out HS.out
      clear HD HS
      by_cases c1 : x.lo < 0
      · have d1 : decide (x.lo < 0) = true := decide_eq_true c1
        clear c1
        go_wp2
        go_quiet (fail)
        go_wp2
        go_ret
        exact ⟨ret_bool (by rw [ST.out.1 (spBad_none (.inl (of_decide_eq_true d1)) _)]), drewN_drewN _ _ _⟩
      have d1 : decide (x.lo < 0) = false := decide_eq_false c1
      by_cases c2 : 255 < x.hi
      · have d2 : decide (255 < x.hi) = true := decide_eq_true c2
        clear c1 c2
        go_wp2
        go_quiet (fail)
        go_wp2
        go_ret
        exact ⟨ret_bool (by rw [ST.out.1 (spBad_none (.inr (.inr (of_decide_eq_true d2))) _)]), drewN_drewN _ _ _⟩
      have d2 : decide (255 < x.hi) = false := decide_eq_false c2
      by_cases c3 : x.hi < x.lo
      · have d3 : decide (x.hi < x.lo) = true := decide_eq_true c3
        clear c1 c2 c3
        go_wp2
        go_quiet (fail)
        go_wp2
        go_ret
        exact ⟨ret_bool (by rw [ST.out.1 (spBad_none (.inr (.inl (of_decide_eq_true d3))) _)]), drewN_drewN _ _ _⟩
      have d3 : decide (x.hi < x.lo) = false := decide_eq_false c3
      have X0 : Hid (0 ≤ x.hi ∧ x.hi ≤ 255) := ⟨by omega, by omega⟩
      rcases HP.out with ⟨hk0, rfl⟩ | ⟨j, y, hj, hy, rfl, y0, y1⟩
      · have C : Hid (spBad none x = false) := spGood (by omega) (by omega) (by omega) (fun q hq => by cases hq)
        have d4 : decide (0 < k) = false := decide_eq_false (by omega)
        clear c1 c2 c3 hk0
        go_wp2
        go_quiet (fail)
        go_wp2
        go_roundg (gk - 1)
        case rel => exact ⟨k + 1, some x.hi, by omega, by go_num, ST.out.2 C.out, .inr ⟨k, x, rfl, HX.out, rfl, X0.out.1, X0.out.2⟩, ⟨_, rfl⟩⟩
        case measure => omega
      · obtain ⟨a', y', ea, HY, _, _, h3⟩ := h.at_ (k - 1) (by omega)
        cases ea
        obtain rfl : y = y' := by
          have := HY.out
          rw [show k - 1 = j by omega, hy] at this
          exact Option.some.inj this
        have d4 : decide (0 < k) = true := decide_eq_true (by omega)
        have e1 : IntKind.i64.wrap ((k : Int) - 1) = (k : Int) - 1 := IntWalk.i64_in _ (by omega)
        have e2 : (0 : Int) ≤ (k : Int) - 1 := by omega
        have e6 : (1 : Int) ≤ (k : Int) := by omega
        have e3 : (k : Int) - 1 < (xs.length : Int) := by omega
        have e4 : ((k : Int) - 1).toNat = k - 1 := by omega
        have e5 : IntKind.i64.wrap (y.hi + 1) = y.hi + 1 := IntWalk.i64_in _ (by omega)
        by_cases c4 : x.lo ≤ y.hi + 1
        · have d5 : decide (x.lo ≤ y.hi + 1) = true := decide_eq_true c4
          have C : Hid (spBad (some y.hi) x = true) := spBad_some c4
          clear c1 c2 c3 c4 hj
          go_wp2
          go_quiet (fail)
          clear e1 e2 e3 e4 e5 e6
          go_wp2
          go_ret
          exact ⟨ret_bool (by rw [ST.out.1 C.out]), drewN_drewN _ _ _⟩
        · have d5 : decide (x.lo ≤ y.hi + 1) = false := decide_eq_false c4
          have C : Hid (spBad (some y.hi) x = false) := spGood (by omega) (by omega) (by omega) (fun q hq => by cases hq; omega)
          clear c1 c2 c3 c4 hj
          go_wp2
          go_quiet (fail)
          clear e1 e2 e3 e4 e5 e6
          go_wp2
          go_roundg (gk - 1)
          case rel => exact ⟨k + 1, some x.hi, by omega, by go_num, ST.out.2 C.out, .inr ⟨k, x, rfl, HX.out, rfl, X0.out.1, X0.out.2⟩, ⟨_, rfl⟩⟩
          case measure => omega
    · go_wp2
      go_ret
      exact ⟨ret_bool (by rw [← HS.out, List.drop_of_length_le (by omega)]; rfl), m, rfl⟩

def szLeft (n : Nat) (left : Int) : Int := if left < n then -1 else left - n
theorem sp_ne1 {x y : Sp} (h : (x.lo != y.lo) = true) : x ≠ y := by rintro rfl; simp at h
theorem sp_ne2 {x y : Sp} (h : (x.hi != y.hi) = true) : x ≠ y := by rintro rfl; simp at h
theorem sp_eq {x y : Sp} (h : (x.lo != y.lo) = false) (h' : (x.hi != y.hi) = false) : x = y := by
  cases x; cases y; simp at h h'; rw [h, h']

theorem drop_eq_step {xs ys xs' ys' : List Sp} {x y : Sp} {r : Bool} (hx : xs = x :: xs') (hy : ys = y :: ys') (hr : decide (xs = ys) = r) : (decide (x = y) = false → r = false) ∧ (decide (x = y) = true → decide (xs' = ys') = r) := by
  subst hx hy
  rw [← hr]
  refine ⟨fun h => ?_, fun h => ?_⟩
  · rw [decide_eq_false_iff_not] at h ⊢
    intro hc
    exact h (List.cons.inj hc).1
  · rw [decide_eq_true_eq] at h
    subst h
    simp

end Go.Proofs.Ytplhbjpkkhhilaa

/- Sizes of trees, and comparison of trees. -/
namespace Go.Proofs.Ytplhbjpkkhhilaa
set_option linter.unusedSimpArgs false
set_option linter.unusedVariables false
open Go.RowKit

mutual
def Rex.size : Rex → Nat
  | .mk _ s ks => s.length + (ks.length + sizeL ks)
def sizeL : List Rex → Nat
  | [] => 0
  | r :: rs => r.size + sizeL rs
end
theorem szLeft_neg {n : Nat} {left : Int} (h : left < n) : szLeft n left < 0 := by unfold szLeft; rw [if_pos h]; omega
theorem szLeft_neg1 {n : Nat} {left : Int} (h : left < n) : szLeft n left = -1 := by unfold szLeft; rw [if_pos h]
theorem szLeft_pos {n : Nat} {left : Int} (h : ¬ left < n) : szLeft n left = left - n := by unfold szLeft; rw [if_neg h]
theorem szLeft_add1 {n m : Nat} {left : Int} (h : left < n) : szLeft (n + m) left = -1 := szLeft_neg1 (by omega)
theorem szLeft_add {n m : Nat} {left : Int} (h : ¬ left < n) : szLeft (n + m) left = szLeft m (left - n) := by
  unfold szLeft
  by_cases h2 : left < ((n + m : Nat) : Int)
  · rw [if_pos h2, if_pos (by omega)]
  · rw [if_neg h2, if_neg (by omega)]; omega

/-! ### comparison -/
theorem rexEqL_len {ks ls : List Rex} (h : ks.length ≠ ls.length) : rexEqL ks ls = false := by
  induction ks generalizing ls with
  | nil => cases ls with
    | nil => simp at h
    | cons y ys => rfl
  | cons x xs ih => cases ls with
    | nil => rfl
    | cons y ys => rw [rexEqL, ih (by simpa using h), Bool.and_false]
theorem cell_at {w w' : World} {g : Nat} {cs : Array Value} {t : TypeId} (h : w.heap[g]? = some (.cells cs t (0, 0))) (i : Nat) : w.cell? ⟨g, i, none⟩ = cs[i]? := cell_of_row w g i cs t (0, 0) h

end Go.Proofs.Ytplhbjpkkhhilaa

/- toSpanS, markSpanS, heldSpanS. -/
namespace Go.Proofs.Ytplhbjpkkhhilaa
set_option linter.unusedSimpArgs false
set_option linter.unusedVariables false
open Go.RowKit

theorem OwnSp.slice {w : World} {base : Nat} {v : Value} {xs : List Sp} (h : OwnSp w base v xs) : ∃ A c, v = .slice A xs.length c := by
  obtain ⟨A, c, e, _⟩ := h.sps
  exact ⟨A, c, e⟩
theorem OwnSp.head {w : World} {base c : Nat} {A : Option Addr} {xs : List Sp} (h : OwnSp w base (.slice A xs.length c) xs) (hn : 0 < xs.length) : ∃ g, A = some ⟨g, 0, none⟩ ∧ base ≤ g := by
  obtain ⟨g, cap, e, hg, _⟩ := own_form h.own hn
  injection e with e1 e2 e3
  exact ⟨g, e1, hg⟩

/-- what is written: the row's own block alone -/
theorem grown_refl (w : World) (row : Option Nat) : w.grownBy w row := ⟨rfl, rfl, rfl, Nat.le_refl _, fun _ _ _ => rfl⟩
theorem grown_set {w w1 : World} {g : Nat} (h : w.grownBy w1 (some g)) (o : Nat) (u : Value) : w.grownBy (w1.setCell ⟨g, o, none⟩ u) (some g) :=
  ⟨h.os, h.tape, h.output, by rw [World.size_setCell]; exact h.size, fun k hk hne => (Below.heap_setCell w1 ⟨g, o, none⟩ u k (fun e => hne (by rw [e]))).trans (h.block k hk hne)⟩

end Go.Proofs.Ytplhbjpkkhhilaa

/- Blocks in memory: laid, stored and read whole. -/
namespace Go.Proofs.Ytplhbjpkkhhilaa
set_option linter.unusedSimpArgs false
set_option linter.unusedVariables false
open Go.RowKit

/-- block g holds the cells cs, none of them frozen -/
structure Blk (w : World) (g : Nat) (cs : Array Value) (t : TypeId) : Prop where
  eq : w.heap[g]? = some (.cells cs t (0, 0))
theorem Blk.lt {w : World} {g : Nat} {cs : Array Value} {t : TypeId} (h : Blk w g cs t) : g < w.heap.size := (Array.getElem?_eq_some_iff.1 h.eq).1
theorem Blk.below {w w1 : World} {g : Nat} {cs : Array Value} {t : TypeId} (h : Blk w g cs t) (hb : Below w.heap.size w w1) : Blk w1 g cs t := ⟨(hb.block g h.lt).trans h.eq⟩
theorem Blk.set {w : World} {g : Nat} {cs : Array Value} {t : TypeId} (h : Blk w g cs t) (i : Nat) (u : Value) : Blk (w.setCell ⟨g, i, none⟩ u) g (cs.setIfInBounds i u) t := ⟨heap_setCell_same w g i cs t u h.eq⟩
theorem Blk.far {w : World} {g : Nat} {cs : Array Value} {t : TypeId} (h : Blk w g cs t) {p : Addr} (hp : g ≠ p.block) (u : Value) : Blk (w.setCell p u) g cs t := ⟨(Below.heap_setCell w p u g hp).trans h.eq⟩
theorem Blk.cell {w : World} {g : Nat} {cs : Array Value} {t : TypeId} (h : Blk w g cs t) (i : Nat) : w.cell? ⟨g, i, none⟩ = cs[i]? := cell_of_row w g i cs t (0, 0) h.eq
theorem Blk.free {w : World} {g : Nat} {cs : Array Value} {t : TypeId} (h : Blk w g cs t) (i : Nat) : w.frozen? ⟨g, i, none⟩ = false := by simp [World.frozen?, h.eq]
theorem Blk.grown {w w1 : World} {g : Nat} {cs : Array Value} {t : TypeId} (h : Blk w g cs t) {row : Option Nat} (hg : w.grownBy w1 row) (hr : ∀ k, row = some k → k ≠ g) : Blk w1 g cs t := ⟨(hg.block g h.lt (fun e => hr g e.symm rfl)).trans h.eq⟩
theorem Blk.alloc {w : World} {g : Nat} {cs : Array Value} {t : TypeId} (h : Blk w g cs t) (o : Obj) : Blk (w.alloc o) g cs t := h.below (below_alloc (Below.refl _ _) o)
theorem blk_new (w : World) (cs : Array Value) (t : TypeId) : Blk (w.alloc (.cells cs t)) w.heap.size cs t := ⟨heap_alloc_new w _⟩

theorem own_blk {w : World} {base g n cap size : Nat} {e : TypeId} {cs : List Value} (h : w.ownsRow base e size (.slice (some ⟨g, 0, none⟩) n cap) n cs) : ∃ cur : Array Value, Blk w g cur e ∧ cur.size = cap * size ∧ n ≤ cap ∧ base ≤ g ∧ cap ≤ maxLen ∧ cur.toList.take (n * size) = cs := by
  rcases h.2 with ⟨h0, _⟩ | ⟨g', cap', cur, h0, hg, hh, hnc, hcm, hcs, ht⟩
  · simp at h0
  · simp only [Value.slice.injEq, Option.some.injEq, Addr.mk.injEq, and_true, true_and] at h0
    obtain ⟨rfl, rfl⟩ := h0
    exact ⟨cur, ⟨hh⟩, hcs, hnc, hg, hcm, ht⟩
theorem own_of_blk {w : World} {base g n size : Nat} {e : TypeId} {cs : List Value} (h : Blk w g cs.toArray e) (hl : cs.length = n * size) (hb : base ≤ g) (hn : n ≤ maxLen) : w.ownsRow base e size (.slice (some ⟨g, 0, none⟩) n n) n cs :=
  ⟨hl, .inr ⟨g, n, cs.toArray, rfl, hb, h.eq, Nat.le_refl _, hn, by simpa using hl, by rw [← hl]; simp⟩⟩

section
variable {P : Program} {ops : Array Oper} {rest : List Oper} {o : Oper} {a : Act} {w : World} {Q : Exit → Act → World → Prop}

/-- a new variable of a type with many cells -/
theorem ev_alloc (hgd : o.guard = none) (t : TypeId) (ho : o.op = .alloc t) (cs : Array Value) (hz : (P.info? t).map (·.zero) = some (some (.agg cs)))
    (h : ∀ g w1, g = w.heap.size → Blk w1 g cs t → Below w.heap.size w w1 → wpList P ops Q rest (a.put o.dst (.pointer (some ⟨g, 0, none⟩))) w1) : wpList P ops Q (o :: rest) a w := by
  refine wpList_plain hgd fun K hK => ?_
  obtain ⟨i, hi, hzz⟩ := Option.map_eq_some_iff.1 hz
  have hrun : (execOp a.eval o).run P w = .ok (.value (.pointer (some ⟨w.heap.size, 0, none⟩))) (w.alloc (.cells cs t (0, 0))) := by
    unfold execOp
    simp only [ho]
    simp [Instr.alloc, zeroValue, typeInfo, hi, hzz, newVar, newRow, Value.cells]
  unfold Oper.wp
  rw [hrun]
  exact hK _ _ (h _ _ rfl (blk_new w cs t) (below_alloc (Below.refl _ _) _))

/-- a value of many cells is boxed -/
theorem ev_box (hgd : o.guard = none) (t : TypeId) (x : Operand) (ho : o.op = .box t x) (cs : Array Value) (hx : a.eval x = .agg cs)
    (h : ∀ g w1, g = w.heap.size → Blk w1 g cs t → Below w.heap.size w w1 → wpList P ops Q rest (a.put o.dst (.pointer (some ⟨g, 0, none⟩))) w1) : wpList P ops Q (o :: rest) a w := by
  refine wpList_plain hgd fun K hK => ?_
  have hrun : (execOp a.eval o).run P w = .ok (.value (.pointer (some ⟨w.heap.size, 0, none⟩))) (w.alloc (.cells cs t (0, 0))) := by
    unfold execOp
    simp only [ho, hx]
    simp [Instr.box, newVar, newRow, Value.cells]
  unfold Oper.wp
  rw [hrun]
  exact hK _ _ (h _ _ rfl (blk_new w cs t) (below_alloc (Below.refl _ _) _))

/-- a variable of many cells is read whole -/
theorem ev_load (hgd : o.guard = none) (t : TypeId) (x : Operand) (ho : o.op = .load t x) (g : Nat) (hx : a.eval x = .pointer (some ⟨g, 0, none⟩)) (cs : List Value) (e : TypeId) (hb : Blk w g cs.toArray e)
    (d : TypeDesc) (hu : P.underlying t = some d) (hd : (match d with | .struct _ | .array _ _ => true | _ => false) = true) (hs : (P.info? t).map (·.size) = some cs.length)
    (h : wpList P ops Q rest (a.put o.dst (.agg cs.toArray)) w) : wpList P ops Q (o :: rest) a w :=
  wpList_load_row hgd t x ho g hx e cs.toArray (0, 0) d hb.eq hu hd (by rw [hs]; simp) h

/-- a whole row is copied over another one -/
theorem ev_copy (hgd : o.guard = none) (d s : Operand) (dT sT : TypeId) (ho : o.op = .call { callee := .builtin .copy, args := #[d, s], argTypes := #[dT, sT] }) (elem : TypeId) (hu : P.underlying dT = some (.slice elem)) (size : Nat) (hsz : (P.info? elem).map (·.size) = some size)
    (g n cap sCap : Nat) (ad : Addr) (hd : a.eval d = .slice (some ⟨g, 0, none⟩) n cap) (hs : a.eval s = .slice (some ad) n sCap) (cur : Array Value) (t : TypeId) (hb : Blk w g cur t) (cs : List Value) (hn : cs.length = n * size)
    (hsrc : CellsAt w ad cs) (hfit : cs.length ≤ cur.size) (h1 : ∀ u ∈ cs, u.oneCell' = true)
    (h : ∀ w1, Blk w1 g (cs ++ cur.toList.drop cs.length).toArray t → w.grownBy w1 (some g) → wpList P ops Q rest (a.put o.dst (.int .i64 n)) w1) : wpList P ops Q (o :: rest) a w := by
  refine wpList_plain hgd fun K hK => ?_
  obtain ⟨i, hi, hz⟩ := Option.map_eq_some_iff.1 hsz
  have hl := run_loadCells_list (P := P) w ad cs hsrc
  have hst := run_storeCells_at P g 0 t cs 0 cur w hb.eq (by simpa using hfit) h1
  have hrun : (Builtin.copy_ #[dT, sT] o.type #[.slice (some ⟨g, 0, none⟩) n cap, .slice (some ad) n sCap]).run P w = .ok (goInt n) (w.setRow g (cs ++ cur.toList.drop cs.length).toArray) := by
    simp [Builtin.copy_, run_underlying hu, Builtin.lenOf, Builtin.firstCells, sizeOf, typeInfo, hi, hz, ← hn, hl, hst]
  unfold Oper.wp
  simp [execOp, ho, resolve, invoke, builtin, hd, hs, hrun, Result.andThen]
  exact hK _ _ (h _ ⟨setRow_heap w g cur _ t _ hb.eq⟩ ⟨rfl, rfl, rfl, by simp, fun k _ hk => setRow_other w g k _ (fun e => hk (by rw [e]))⟩)

/-- a value of many cells is stored into a part of a block -/
theorem ev_store (hgd : o.guard = none) (hd : o.dst = none) (t : TypeId) (x v : Operand) (ho : o.op = .store t x v) (g off : Nat) (hx : a.eval x = .pointer (some ⟨g, off, none⟩)) (vs : List Value) (hv : a.eval v = .agg vs.toArray)
    (cur : Array Value) (e : TypeId) (hb : Blk w g cur e) (hs : (P.info? t).map (·.size) = some vs.length) (hfit : off + vs.length ≤ cur.size) (h1 : ∀ u ∈ vs, u.oneCell' = true)
    (h : ∀ w1, Blk w1 g (cur.toList.take off ++ vs ++ cur.toList.drop (off + vs.length)).toArray e → w.grownBy w1 (some g) → wpList P ops Q rest a w1) : wpList P ops Q (o :: rest) a w := by
  refine wpList_plain hgd fun K hK => ?_
  obtain ⟨i, hi, hsz⟩ := Option.map_eq_some_iff.1 hs
  have hst := run_storeCells_at P g off e vs 0 cur w hb.eq (by simpa using hfit) h1
  have hrun : (execOp a.eval o).run P w = .ok .skip (w.setRow g (cur.toList.take off ++ vs ++ cur.toList.drop (off + vs.length)).toArray) := by
    unfold execOp
    simp only [ho, hx, hv]
    simp only [Instr.storeAt, Instr.sureAddr, storeVar, sizeOf, typeInfo, Value.cells]
    simp [hi, hsz, hst]
  unfold Oper.wp
  rw [hrun]
  show K (a.put o.dst undef) _
  rw [hd]
  exact hK _ _ (h _ ⟨setRow_heap w g cur _ e _ hb.eq⟩ ⟨rfl, rfl, rfl, by simp, fun k _ hk => setRow_other w g k _ (fun e => hk (by rw [e]))⟩)
end

end Go.Proofs.Ytplhbjpkkhhilaa

/- Trees that a call made: each row in a block of its own. -/
namespace Go.Proofs.Ytplhbjpkkhhilaa
set_option linter.unusedSimpArgs false
set_option linter.unusedVariables false
open Go.RowKit

abbrev TRx : Nat := 34
abbrev nilS : Value := .slice none 0 0
/-- the block of a row -/
def vblk (v : Value) : List Nat := match v.ownBlock with
  | some g => [g]
  | none => []
theorem mem_vblk {v : Value} {g : Nat} : g ∈ vblk v ↔ v.ownBlock = some g := by
  unfold vblk
  split <;> simp_all
  exact eq_comm
theorem vblk_nil : vblk nilS = [] := rfl
theorem vblk_some (g n c : Nat) : vblk (.slice (some ⟨g, 0, none⟩) n c) = [g] := rfl

structure KInfo where
  fp : List Nat
  v1 : Value
  v2 : Value
def kcell (r : Rex) (x : KInfo) : List Value := [.int .i64 r.kind, x.v1, x.v2]
def kcells : List Rex → List KInfo → List Value
  | r :: rs, x :: xs => kcell r x ++ kcells rs xs
  | _, _ => []
def fps (L : List KInfo) : List Nat := L.flatMap (·.fp)
theorem fps_append (L M : List KInfo) : fps (L ++ M) = fps L ++ fps M := by simp [fps]
theorem fps_cons (x : KInfo) (L : List KInfo) : fps (x :: L) = x.fp ++ fps L := by simp [fps]
theorem kcells_length : ∀ (rs : List Rex) (L : List KInfo), rs.length = L.length → (kcells rs L).length = rs.length * 3
  | [], [], _ => rfl
  | r :: rs, x :: L, h => by
    simp only [kcells, kcell, List.length_append, List.length_cons, List.length_nil]
    rw [kcells_length rs L (by simpa using h)]
    omega
theorem kcells_append : ∀ (rs : List Rex) (L : List KInfo) (r : Rex) (x : KInfo), rs.length = L.length → kcells (rs ++ [r]) (L ++ [x]) = kcells rs L ++ [.int .i64 r.kind, x.v1, x.v2]
  | [], [], r, x, _ => by simp [kcells, kcell]
  | r' :: rs, x' :: L, r, x, h => by
    have := kcells_append rs L r x (by simpa using h)
    simp only [List.cons_append, kcells, this, List.append_assoc]
theorem kcells_get : ∀ (rs : List Rex) (L : List KInfo) (i : Nat) (r : Rex) (x : KInfo), rs[i]? = some r → L[i]? = some x → rs.length = L.length →
    (kcells rs L)[i * 3]? = some (.int .i64 r.kind) ∧ (kcells rs L)[i * 3 + 1]? = some x.v1 ∧ (kcells rs L)[i * 3 + 2]? = some x.v2
  | [], _, i, r, x, h, _, _ => by simp at h
  | r' :: rs, [], i, r, x, _, h, _ => by simp at h
  | r' :: rs, x' :: L, 0, r, x, h1, h2, hl => by
    simp at h1 h2
    subst h1 h2
    simp [kcells, kcell]
  | r' :: rs, x' :: L, i + 1, r, x, h1, h2, hl => by
    have := kcells_get rs L i r x (by simpa using h1) (by simpa using h2) (by simpa using hl)
    rw [show (i + 1) * 3 = i * 3 + 3 by omega]
    simpa [kcells, kcell] using this

inductive OwnT (w : World) : List Nat → Rex → Value → Value → Prop
  | mk (k : Int) (s : List Sp) (ks : List Rex) (v1 v2 : Value) (L : List KInfo) (hL : ks.length = L.length) (hs : OwnSp w 0 v1 s) (hk : w.ownsRow 0 TRx 3 v2 ks.length (kcells ks L)) (hn : ks.length ≤ maxN)
      (hr : ∀ (i : Nat) (r : Rex) (x : KInfo), ks[i]? = some r → L[i]? = some x → OwnT w x.fp r x.v1 x.v2) (nd : (vblk v1 ++ (vblk v2 ++ fps L)).Nodup) : OwnT w (vblk v1 ++ (vblk v2 ++ fps L)) (.mk k s ks) v1 v2

/-- a row of trees that a call made -/
structure OwnK (w : World) (fp : List Nat) (ks : List Rex) (v2 : Value) (L : List KInfo) : Prop where
  hL : ks.length = L.length
  hk : w.ownsRow 0 TRx 3 v2 ks.length (kcells ks L)
  hn : ks.length ≤ maxN
  hr : ∀ (i : Nat) (r : Rex) (x : KInfo), ks[i]? = some r → L[i]? = some x → OwnT w x.fp r x.v1 x.v2
  fe : fp = vblk v2 ++ fps L
  nd : fp.Nodup
theorem OwnT.parts {w : World} {fp : List Nat} {r : Rex} {v1 v2 : Value} (h : OwnT w fp r v1 v2) :
    ∃ L fk, fp = vblk v1 ++ fk ∧ fp.Nodup ∧ OwnSp w 0 v1 r.set ∧ OwnK w fk r.kids v2 L := by
  cases h with
  | mk k s ks _ _ L hL hs hk hn hr nd => exact ⟨L, _, rfl, nd, hs, hL, hk, hn, hr, rfl, (List.nodup_append.1 nd).2.1⟩
theorem OwnT.of {w : World} {fk : List Nat} {k : Int} {s : List Sp} {ks : List Rex} {v1 v2 : Value} {L : List KInfo} (hs : OwnSp w 0 v1 s) (hk : OwnK w fk ks v2 L) (nd : (vblk v1 ++ fk).Nodup) : OwnT w (vblk v1 ++ fk) (.mk k s ks) v1 v2 := by
  obtain ⟨hL, hk, hn, hr, fe, _⟩ := hk
  subst fe
  exact .mk k s ks v1 v2 L hL hs hk hn hr nd

theorem OwnSp.lt {w : World} {base : Nat} {v : Value} {xs : List Sp} (h : OwnSp w base v xs) : ∀ b, b ∈ vblk v → base ≤ b ∧ b < w.heap.size := fun b hb => h.own.lt b (mem_vblk.1 hb)
theorem mem_fps {L : List KInfo} {b : Nat} : b ∈ fps L ↔ ∃ (i : Nat) (x : KInfo), L[i]? = some x ∧ b ∈ x.fp := by
  unfold fps
  rw [List.mem_flatMap]
  constructor
  · rintro ⟨x, hx, hb⟩
    obtain ⟨i, hi⟩ := List.getElem?_of_mem hx
    exact ⟨i, x, hi, hb⟩
  · rintro ⟨i, x, hi, hb⟩
    exact ⟨x, List.mem_of_getElem? hi, hb⟩
theorem OwnT.lt {w : World} {fp : List Nat} {r : Rex} {v1 v2 : Value} (h : OwnT w fp r v1 v2) : ∀ b, b ∈ fp → b < w.heap.size := by
  induction h with
  | mk k s ks v1 v2 L hL hs hk hn hr nd ih =>
    intro b hb
    rcases List.mem_append.1 hb with hb | hb
    · exact (hs.lt b hb).2
    · rcases List.mem_append.1 hb with hb | hb
      · exact (hk.lt b (mem_vblk.1 hb)).2
      · obtain ⟨i, x, hx, hb⟩ := mem_fps.1 hb
        have hi := (List.getElem?_eq_some_iff.1 hx).1
        exact ih i (ks[i]'(by omega)) x (List.getElem?_eq_getElem _) hx b hb
theorem OwnK.lt {w : World} {fp : List Nat} {ks : List Rex} {v2 : Value} {L : List KInfo} (h : OwnK w fp ks v2 L) : ∀ b, b ∈ fp → b < w.heap.size := by
  intro b hb
  rw [h.fe] at hb
  rcases List.mem_append.1 hb with hb | hb
  · exact (h.hk.lt b (mem_vblk.1 hb)).2
  · obtain ⟨i, x, hx, hb⟩ := mem_fps.1 hb
    have hi := (List.getElem?_eq_some_iff.1 hx).1
    have hL := h.hL
    exact (h.hr i (ks[i]'(by omega)) x (List.getElem?_eq_getElem _) hx).lt b hb
/-- it stays where its blocks stay -/
theorem OwnSp.stay {w w1 : World} {base : Nat} {v : Value} {xs : List Sp} (h : OwnSp w base v xs) (hm : ∀ b, b ∈ vblk v → w1.heap[b]? = w.heap[b]?) : OwnSp w1 base v xs := ⟨own_move h.own fun k hk => hm k (mem_vblk.2 hk), h.len⟩
theorem OwnT.stay {w w' : World} {fp : List Nat} {r : Rex} {v1 v2 : Value} (h : OwnT w fp r v1 v2) (hm : ∀ b, b ∈ fp → w'.heap[b]? = w.heap[b]?) : OwnT w' fp r v1 v2 := by
  induction h with
  | mk k s ks v1 v2 L hL hs hk hn hr nd ih =>
    refine .mk k s ks v1 v2 L hL (hs.stay fun b hb => hm b (by simp [hb])) (own_move hk fun g hg => hm g (by simp [mem_vblk.2 hg])) hn (fun i r x hi hx => ih i r x hi hx fun b hb => hm b ?_) nd
    have := mem_fps.2 ⟨i, x, hx, hb⟩
    simp [this]
theorem OwnK.stay {w w' : World} {fp : List Nat} {ks : List Rex} {v2 : Value} {L : List KInfo} (h : OwnK w fp ks v2 L) (hm : ∀ b, b ∈ fp → w'.heap[b]? = w.heap[b]?) : OwnK w' fp ks v2 L := by
  obtain ⟨hL, hk, hn, hr, fe, nd⟩ := h
  refine ⟨hL, own_move hk fun g hg => hm g (by simp [fe, mem_vblk.2 hg]), hn, fun i r x hi hx => (hr i r x hi hx).stay fun b hb => hm b ?_, fe, nd⟩
  have := mem_fps.2 ⟨i, x, hx, hb⟩
  simp [fe, this]
theorem OwnT.under {w w' : World} {fp : List Nat} {r : Rex} {v1 v2 : Value} (h : OwnT w fp r v1 v2) (hb : Below w.heap.size w w') : OwnT w' fp r v1 v2 := h.stay fun b hf => hb.block b (h.lt b hf)
theorem OwnK.under {w w' : World} {fp : List Nat} {ks : List Rex} {v2 : Value} {L : List KInfo} (h : OwnK w fp ks v2 L) (hb : Below w.heap.size w w') : OwnK w' fp ks v2 L := h.stay fun b hf => hb.block b (h.lt b hf)

/-- what is owned is read -/
theorem OwnT.rexv {w : World} {fp : List Nat} {r : Rex} {v1 v2 : Value} (h : OwnT w fp r v1 v2) : ∀ lo, (∀ b, b ∈ fp → lo ≤ b) → RexV w lo r (.int .i64 r.kind) v1 v2 := by
  induction h with
  | mk k s ks v1 v2 L hL hs hk hn hr nd ih =>
    intro lo hlo
    have hs' : OwnSp w lo v1 s := by
      refine ⟨?_, hs.len⟩
      obtain ⟨h1, h2⟩ := hs.own
      refine ⟨h1, h2.imp id ?_⟩
      rintro ⟨g, cap, cur, rfl, hg, r⟩
      exact ⟨g, cap, cur, rfl, hlo g (by simp [vblk_some]), r⟩
    obtain ⟨A, c, rfl, sp⟩ := hs'.sps
    have hk' : w.ownsRow lo TRx 3 v2 ks.length (kcells ks L) := by
      obtain ⟨h1, h2⟩ := hk
      refine ⟨h1, h2.imp id ?_⟩
      rintro ⟨g, cap, cur, rfl, hg, r⟩
      exact ⟨g, cap, cur, rfl, hlo g (by simp [vblk_some]), r⟩
    obtain ⟨K, ck, rfl, hck, hrow⟩ := own_row hk'
    refine .mk k s ks A K c ck (fun i => .int .i64 (ks.getD i default).kind) (fun i => (L.getD i ⟨[], undef, undef⟩).v1) (fun i => (L.getD i ⟨[], undef, undef⟩).v2) sp hck hn (fun i hi => ?_) (fun i r hi => ?_)
    · have e1 : ks[i]? = some (ks.getD i default) := by simp [List.getD_eq_getElem?_getD, hi]
      have e2 : L[i]? = some (L.getD i ⟨[], undef, undef⟩) := by simp [List.getD_eq_getElem?_getD, show i < L.length by omega]
      obtain ⟨g0, g1, g2⟩ := kcells_get ks L i _ _ e1 e2 hL
      rcases hrow with h0 | ⟨a, rfl, ha, hc⟩
      · rw [h0] at g0; simp at g0
      · exact ⟨a, rfl, ha, hc _ _ g0, by rw [← add_field _ _ 1 (by omega)]; exact hc _ _ g1, by rw [← add_field _ _ 2 (by omega)]; exact hc _ _ g2⟩
    · have hi' := (List.getElem?_eq_some_iff.1 hi).1
      have e1 : ks.getD i default = r := by simp [List.getD_eq_getElem?_getD, hi]
      have e2 : L[i]? = some (L.getD i ⟨[], undef, undef⟩) := by simp [List.getD_eq_getElem?_getD, show i < L.length by omega]
      show RexV w lo r (.int .i64 (ks.getD i default).kind) _ _
      rw [e1]
      exact ih i r _ hi e2 lo fun b hb => hlo b (by have := mem_fps.2 ⟨i, _, e2, hb⟩; simp [this])
theorem OwnT.rex0 {w : World} {fp : List Nat} {r : Rex} {v1 v2 : Value} (h : OwnT w fp r v1 v2) : RexV w 0 r (.int .i64 r.kind) v1 v2 := h.rexv 0 fun _ _ => Nat.zero_le _
theorem OwnK.empty {w : World} : OwnK w [] [] nilS [] := ⟨rfl, World.ownsRow_nil _ _ _ _, by simp, fun i r x h => by simp at h, rfl, List.nodup_nil⟩

/-- all blocks but some are as they were -/
structure Touch (fp : List Nat) (w w' : World) : Prop where
  os : w'.os = w.os
  tape : w'.tape = w.tape
  output : w'.output = w.output
  size : w.heap.size ≤ w'.heap.size
  block : ∀ k, k < w.heap.size → k ∉ fp → w'.heap[k]? = w.heap[k]?
theorem Touch.refl (fp : List Nat) (w : World) : Touch fp w w := ⟨rfl, rfl, rfl, Nat.le_refl _, fun _ _ _ => rfl⟩
theorem Touch.trans {fp : List Nat} {w w' w'' : World} (h : Touch fp w w') (k : Touch fp w' w'') : Touch fp w w'' :=
  ⟨k.os.trans h.os, k.tape.trans h.tape, k.output.trans h.output, Nat.le_trans h.size k.size, fun i hi hf => (k.block i (Nat.lt_of_lt_of_le hi h.size) hf).trans (h.block i hi hf)⟩
theorem Touch.wide {fp fp' : List Nat} {w w' : World} (h : Touch fp w w') (hs : ∀ b, b ∈ fp → b ∈ fp') : Touch fp' w w' := ⟨h.os, h.tape, h.output, h.size, fun k hk hf => h.block k hk fun h2 => hf (hs k h2)⟩
theorem Touch.of_below {fp : List Nat} {w w' : World} (h : Below w.heap.size w w') : Touch fp w w' := ⟨h.os, h.tape, h.output, h.size, fun k hk _ => h.block k hk⟩
theorem Touch.of_grown {v : Value} {w w' : World} (h : w.grownBy w' v.ownBlock) : Touch (vblk v) w w' := ⟨h.os, h.tape, h.output, h.size, fun k hk hf => h.block k hk fun e => hf (mem_vblk.2 e.symm)⟩
theorem Touch.set {fp : List Nat} {w w' : World} (h : Touch fp w w') {p : Addr} (hp : p.block ∈ fp) (u : Value) : Touch fp w (w'.setCell p u) :=
  ⟨h.os, h.tape, h.output, by rw [World.size_setCell]; exact h.size, fun k hk hf => (Below.heap_setCell w' p u k (fun e => hf (e ▸ hp))).trans (h.block k hk hf)⟩
theorem Touch.below {fp : List Nat} {w w' : World} (h : Touch fp w w') {n : Nat} (hf : ∀ b, b ∈ fp → n ≤ b) (hn : n ≤ w.heap.size) : Below n w w' := ⟨h.os, h.tape, h.output, h.size, fun k hk => h.block k (by omega) fun h2 => by have := hf k h2; omega⟩
theorem Touch.rex {fp : List Nat} {w w' w0 : World} {lo : Nat} {r : Rex} {v0 v1 v2 : Value} (h : Touch fp w w') (hv : RexV w lo r v0 v1 v2) (hf : ∀ b, b ∈ fp → b < lo) : RexV w' lo r v0 v1 v2 :=
  hv.keep fun k hl hk => h.block k hk fun h2 => by have := hf k h2; omega

end Go.Proofs.Ytplhbjpkkhhilaa

/- Copies of the laws' trees: toRex, toRexS. -/
namespace Go.Proofs.Ytplhbjpkkhhilaa
set_option linter.unusedSimpArgs false
set_option linter.unusedVariables false
open Go.RowKit

theorem infoRx : (Try.prog.info? TRx).map (fun i => (i.zero, i.size, i.bytes)) = some (some (.agg #[.int .i64 0, nilS, nilS]), 3, 56) := by kernel_rfl
theorem add0 (g j : Nat) : (⟨g, 0, none⟩ : Addr).add j = ⟨g, j, none⟩ := by unfold Addr.add; split <;> simp_all
theorem size_kid {ks : List Rex} {r : Rex} (h : r ∈ ks) : r.size ≤ sizeL ks := by
  induction ks with
  | nil => cases h
  | cons x xs ih =>
    rw [sizeL]
    rcases List.mem_cons.1 h with rfl | h
    · omega
    · have := ih h; omega

theorem sizeRx : (Try.prog.info? TRx).map (·.size) = some 3 := by kernel_rfl
theorem sizeRx' (a b c : Value) : (Try.prog.info? TRx).map (·.size) = some [a, b, c].length := sizeRx
theorem RexV.one {w : World} {lo : Nat} {r : Rex} {v0 v1 v2 : Value} (h : RexV w lo r v0 v1 v2) : ∀ u ∈ [v0, v1, v2], u.oneCell' = true := by
  obtain ⟨A, c, K, ck, rfl, rfl, rfl, _⟩ := h.parts
  intro u hu
  simp at hu
  rcases hu with rfl | rfl | rfl <;> rfl
theorem splice3 (l : List Value) (a b c : Value) (k : Nat) (h : k * 3 + 2 < l.length) :
    (l.take (k * 3) ++ [a, b, c] ++ l.drop (k * 3 + 3))[k * 3]? = some a ∧ (l.take (k * 3) ++ [a, b, c] ++ l.drop (k * 3 + 3))[k * 3 + 1]? = some b ∧ (l.take (k * 3) ++ [a, b, c] ++ l.drop (k * 3 + 3))[k * 3 + 2]? = some c ∧
      (∀ i, i < k * 3 → (l.take (k * 3) ++ [a, b, c] ++ l.drop (k * 3 + 3))[i]? = l[i]?) ∧ (l.take (k * 3) ++ [a, b, c] ++ l.drop (k * 3 + 3)).length = l.length := by
  have e : (l.take (k * 3)).length = k * 3 := by rw [List.length_take]; omega
  refine ⟨?_, ?_, ?_, fun i hi => ?_, ?_⟩
  · rw [List.append_assoc, List.getElem?_append_right (by omega), e]; simp
  · rw [List.append_assoc, List.getElem?_append_right (by omega), e, show k * 3 + 1 - k * 3 = 1 by omega]; simp
  · rw [List.append_assoc, List.getElem?_append_right (by omega), e, show k * 3 + 2 - k * 3 = 2 by omega]; simp
  · rw [List.append_assoc, List.getElem?_append_left (by omega), List.getElem?_take, if_pos hi]
  · simp only [List.length_append, e, List.length_drop, List.length_cons, List.length_nil]; omega

/-- a row that is being filled with trees -/
structure KPart (w : World) (g lo cap : Nat) (cur : Array Value) (ks : List Rex) (k : Nat) (L : List KInfo) : Prop where
  blk : Blk w g cur TRx
  size : cur.size = cap * 3
  capn : ks.length ≤ cap
  capm : cap ≤ maxLen
  len : L.length = k
  le : k ≤ ks.length
  cells : cur.toList.take (k * 3) = kcells (ks.take k) L
  hr : ∀ (i : Nat) (r : Rex) (x : KInfo), ks[i]? = some r → L[i]? = some x → OwnT w x.fp r x.v1 x.v2
  nd : (g :: fps L).Nodup
  lo : ∀ b, b ∈ g :: fps L → lo ≤ b
theorem KPart.lt {w : World} {g lo cap : Nat} {cur : Array Value} {ks : List Rex} {k : Nat} {L : List KInfo} (h : KPart w g lo cap cur ks k L) : ∀ b, b ∈ g :: fps L → b < w.heap.size := by
  intro b hb
  rcases List.mem_cons.1 hb with rfl | hb
  · exact h.blk.lt
  · obtain ⟨i, x, hx, hb⟩ := mem_fps.1 hb
    have hi := (List.getElem?_eq_some_iff.1 hx).1
    have hl := h.len
    have hle := h.le
    exact (h.hr i (ks[i]'(by omega)) x (List.getElem?_eq_getElem _) hx).lt b hb
theorem splice_take (l : List Value) (a b c : Value) (k : Nat) (h : k * 3 + 2 < l.length) : (l.take (k * 3) ++ [a, b, c] ++ l.drop (k * 3 + 3)).take ((k + 1) * 3) = l.take (k * 3) ++ [a, b, c] := by
  have e : (l.take (k * 3) ++ [a, b, c]).length = (k + 1) * 3 := by simp only [List.length_append, List.length_take, List.length_cons, List.length_nil]; omega
  rw [List.take_append_of_le_length (by omega), List.take_of_length_le (by omega)]
theorem KPart.snoc {w w2 w5 : World} {g lo cap : Nat} {cur : Array Value} {ks : List Rex} {k : Nat} {L : List KInfo} (h : KPart w g lo cap cur ks k L) {r : Rex} (hk : ks[k]? = some r) (b2 : Below w.heap.size w w2) {fp : List Nat} {u1 u2 : Value}
    (ho : OwnT w2 fp r u1 u2) (hf : ∀ b, b ∈ fp → w.heap.size ≤ b) (nd : fp.Nodup) (hX : Blk w5 g (cur.toList.take (k * 3) ++ [.int .i64 r.kind, u1, u2] ++ cur.toList.drop (k * 3 + 3)).toArray TRx) (hg : w2.grownBy w5 (some g)) (hlo : lo ≤ w.heap.size) :
    KPart w5 g lo cap (cur.toList.take (k * 3) ++ [.int .i64 r.kind, u1, u2] ++ cur.toList.drop (k * 3 + 3)).toArray ks (k + 1) (L ++ [⟨fp, u1, u2⟩]) := by
  have hklt := (List.getElem?_eq_some_iff.1 hk).1
  have hsz := h.size
  have hcapn := h.capn
  have hlen := h.len
  have k0 : k * 3 + 2 < cur.toList.length := by rw [Array.length_toList]; omega
  obtain ⟨_, _, _, _, s4⟩ := splice3 cur.toList (.int .i64 r.kind) u1 u2 k k0
  have hglt : g < w.heap.size := h.blk.lt
  have stay : ∀ b, b < w2.heap.size → b ≠ g → w5.heap[b]? = w2.heap[b]? := fun b hb hne => hg.block b hb fun e => by injection e with e; exact hne e
  refine ⟨hX, by rw [List.size_toArray, s4, Array.length_toList]; exact hsz, h.capn, h.capm, by simp [hlen], hklt, ?_, ?_, ?_, ?_⟩
  · show List.take ((k + 1) * 3) _ = _
    rw [splice_take _ _ _ _ _ k0, h.cells, List.take_add_one, hk]
    exact (kcells_append _ _ _ ⟨fp, u1, u2⟩ (by simp [hlen]; omega)).symm
  · intro i r' x hi hx
    by_cases e : i < L.length
    · rw [List.getElem?_append_left e] at hx
      have hT := h.hr i r' x hi hx
      refine (hT.under b2).stay fun b hb => stay b (Nat.lt_of_lt_of_le (hT.lt b hb) b2.size) fun e => ?_
      have := List.nodup_cons.1 h.nd
      exact this.1 (e ▸ mem_fps.2 ⟨i, x, hx, hb⟩)
    · have e2 : i = L.length := by
        have := (List.getElem?_eq_some_iff.1 hx).1
        simp at this
        omega
      subst e2
      rw [hlen, hk] at hi
      obtain rfl := Option.some.inj hi
      simp at hx
      subst hx
      exact ho.stay fun b hb => stay b (ho.lt b hb) fun e => by have := hf b hb; omega
  · have hn : (fps (L ++ [⟨fp, u1, u2⟩])) = fps L ++ fp := by rw [fps_append]; simp [fps]
    rw [hn, ← List.cons_append]
    refine List.nodup_append.2 ⟨h.nd, nd, fun a ha b hb e => ?_⟩
    have h1 := h.lt a ha
    have h2 := hf b hb
    omega
  · have hn : (fps (L ++ [⟨fp, u1, u2⟩])) = fps L ++ fp := by rw [fps_append]; simp [fps]
    rw [hn, ← List.cons_append]
    intro b hb
    rcases List.mem_append.1 hb with hb | hb
    · exact h.lo b hb
    · exact Nat.le_trans hlo (hf b hb)
theorem KPart.done {w : World} {g lo cap : Nat} {cur : Array Value} {ks : List Rex} {k : Nat} {L : List KInfo} (h : KPart w g lo cap cur ks k L) (hk : k = ks.length) :
    OwnK w (g :: fps L) ks (.slice (some ⟨g, 0, none⟩) ks.length cap) L := by
  subst hk
  obtain ⟨hb, hs, hn, hm, hl, _, hc, hr, nd, _⟩ := h
  rw [List.take_length] at hc
  exact ⟨hl.symm, ⟨kcells_length _ _ hl.symm, .inr ⟨g, cap, cur, rfl, Nat.zero_le _, hb.eq, hn, hm, hs, hc⟩⟩, by unfold maxLen at hm; unfold maxN; omega, hr, rfl, nd⟩
theorem KPart.first {w : World} {g lo cap : Nat} {cur : Array Value} {ks : List Rex} (hb : Blk w g cur TRx) (hs : cur.size = cap * 3) (hn : ks.length ≤ cap) (hm : cap ≤ maxLen) (hl : lo ≤ g) : KPart w g lo cap cur ks 0 [] :=
  ⟨hb, hs, hn, hm, rfl, Nat.zero_le _, by simp [kcells], fun i r x _ h => by simp at h, by simp [fps], fun b hb => by simp [fps] at hb; omega⟩

end Go.Proofs.Ytplhbjpkkhhilaa

/- copied, at trees and at lists of spans: the same cells in new memory. -/
namespace Go.Proofs.Ytplhbjpkkhhilaa
set_option linter.unusedSimpArgs false
set_option linter.unusedVariables false
open Go.RowKit

abbrev TSS : Nat := 27
theorem infoSS : (Try.prog.info? TSS).map (fun i => (i.zero, i.size, i.bytes)) = some (some nilS, 1, 24) := by kernel_rfl
theorem sizeSS : (Try.prog.info? TSS).map (·.size) = some 1 := by kernel_rfl

set_option maxHeartbeats 1000000 in
theorem copiedRex_c (A : Option Addr) (c n : Nat) (cs : List Value) (w : World) {lo : Nat} (h : Row w lo A cs) (hn : cs.length = n * 3) (h1 : ∀ u ∈ cs, u.oneCell' = true) (hx : n ≤ 1073741824) :
    Calls Try.prog 84 #[.slice A n c] w fun e w' => ∃ v, e = .returned v ∧ w'.ownsRow w.heap.size TRx 3 v n cs ∧ Below w.heap.size w w' := by
  by_cases h0 : n = 0
  · subst h0
    go_enter Try.func84, Try.ntmps84
    go_wp2
    go_ret
    have : cs = [] := by simpa using hn
    subst this
    exact ⟨_, rfl, World.ownsRow_nil _ _ _ _, Below.refl _ _⟩
  · obtain ⟨i0, hi, hz0, hz1, hz2⟩ := info_parts infoRx
    have b0 : ((n : Int) == 0) = false := by simp [h0]
    have h0' : 0 < n := by omega
    clear h0
    rcases h with rfl | ⟨ad, rfl, _, hc⟩
    · simp at hn; omega
    have HN : Hid (cs.length = n * 3) := hn
    clear hn
    go_enter Try.func84, Try.ntmps84
    go_wp2_with (first
      | (at_make; refine wpList_make_full _ rfl (.tmp 8) (.tmp 8) 32 rfl w.heap.size TRx i0 (.agg #[.int .i64 0, nilS, nilS]) 3 Try.underlying32 hi hz0 hz1 .i64 .i64 _ _ n rfl rfl rfl rfl (by rw [hz2]; omega) (by unfold maxLen; omega) (Nat.le_refl _) ?_; intro w1 hown hgrow; obtain ⟨cur, hB, hsz, _⟩ := own_blk hown; have hb1 := (Below.refl _ w).grown hgrow (Nat.le_refl _) (fun k hk => by cases hk); have hc1 := hc.below hb1; clear hown hgrow; have HS : Hid (cur.size = n * 3) := hsz; clear hsz)
      | (with_reducible refine ev_copy (o := ⟨some 12, _, _, _, _, _⟩) rfl (.tmp 10) (.tmp 11) _ _ rfl TRx Try.underlying32 3 sizeRx w.heap.size n n _ ad rfl rfl cur TRx hB cs HN.out hc1 (by rw [HN.out, HS.out]; exact Nat.le_refl _) h1 ?_; intro w2 hB2 hg2))
    go_ret
    have e : cur.toList.drop cs.length = [] := List.drop_of_length_le (by rw [Array.length_toList, HN.out, HS.out]; exact Nat.le_refl _)
    rw [e, List.append_nil] at hB2
    exact ⟨_, rfl, own_of_blk hB2 HN.out (Nat.le_refl _) (by unfold maxLen; omega), hb1.grown hg2 hb1.size (fun k hk => by injection hk with hk; omega)⟩
end Go.Proofs.Ytplhbjpkkhhilaa

/- A region that draws its order, reads, and calls what makes memory but answers alike in every world above: walked once. -/
namespace Go.Proofs.Ytplhbjpkkhhilaa
set_option linter.unusedSimpArgs false
set_option linter.unusedVariables false
open Go.RowKit

/-- the worlds that keep what is below -/
structure BW (w : World) : Type where
  w1 : World
  up : Below w.heap.size w w1
instance (w : World) : Nonempty (BW w) := ⟨⟨w, Below.refl _ _⟩⟩
theorem wp_region_bw {P : Program} {id : Nat} {Q : Exit → Act → World → Prop} {a : Act} {w : World} {l : List Oper} (hm : P.follows .mixedOrders = true) (hB : Region.lexB .any l.toArray = true)
    (h : wpQuiet P l.toArray (fun w' => ∃ x : BW w, w' = x.w1) (fun a' => ∀ w', (∃ x : BW w, w' = x.w1) → Q .normal a' w') l a) : (Code.region id l.toArray true).wp P Q a w :=
  wp_region_quiet (C := fun w' => ∃ x : BW w, w' = x.w1) hm hB ⟨⟨w.drew, below_drew (Below.refl _ _)⟩, rfl⟩ (by simpa using h)
theorem Calls.bw {P : Program} {f : FuncId} {args : Array Value} {W : World} {x : BW W} {v v' : Value} (hv : v = v') (h : Calls P f args x.w1 fun e w' => e = .returned v ∧ Below x.w1.heap.size x.w1 w') :
    Calls P f args x.w1 fun e w'' => e = .returned v' ∧ ∃ y : BW W, w'' = y.w1 :=
  h.mono fun _ w' ⟨he, hb⟩ => ⟨by rw [he, hv], ⟨w', below_then x.up hb⟩, rfl⟩
theorem Calls.bw_d {P : Program} {f : FuncId} {args : Array Value} {W : World} {x : BW W} {v v' : Value} (hv : v = v') (h : Calls P f args x.w1 fun e w' => e = .returned v ∧ Drawn x.w1 w') :
    Calls P f args x.w1 fun e w'' => e = .returned v' ∧ ∃ y : BW W, w'' = y.w1 :=
  h.mono fun _ w' ⟨he, hb⟩ => ⟨by rw [he, hv], ⟨w', below_then x.up hb.below⟩, rfl⟩
theorem Calls.bw_e {P : Program} {f : FuncId} {args : Array Value} {W : World} {x : BW W} {v v' : Value} (hv : v = v') (h : Calls P f args x.w1 fun e w' => e = .returned v ∧ x.w1 = w') :
    Calls P f args x.w1 fun e w'' => e = .returned v' ∧ ∃ y : BW W, w'' = y.w1 :=
  h.mono fun _ w' ⟨he, hb⟩ => ⟨by rw [he, hv], x, hb.symm⟩
theorem BW.cell {w : World} (x : BW w) {a : Addr} {u : Value} (h : w.cell? a = some u) : x.w1.cell? a = some u := (x.up.cell (World.block_lt_of_cell? w _ h)).trans h
theorem bv {a b : Bool} (h : a = b) : Value.bool a = Value.bool b := congrArg _ h
theorem iv {a b : Int} (h : a = b) : Value.int .i64 a = Value.int .i64 b := congrArg _ h

end Go.Proofs.Ytplhbjpkkhhilaa

/- Marks and holds of results in memory. -/
namespace Go.Proofs.Ytplhbjpkkhhilaa
set_option linter.unusedSimpArgs false
set_option linter.unusedVariables false
open Go.RowKit

theorem OwnSp.row {w : World} {base c : Nat} {A : Option Addr} {xs ys : List Sp} (h : OwnSp w base (.slice A xs.length c) ys) : Sps w base A c ys := by
  obtain ⟨A', c', e, s⟩ := h.sps
  injection e with e1 e2 e3
  subst e1 e3
  exact s
theorem OwnSp.moved {w w1 : World} {base : Nat} {v : Value} {xs : List Sp} (h : OwnSp w base v xs) (hm : ∀ k, v.ownBlock = some k → w1.heap[k]? = w.heap[k]?) : OwnSp w1 base v xs := ⟨own_move h.own hm, h.len⟩
theorem spansOf_len (f : Nat → Bool) : (spansOf f).length ≤ 256 := spansTo_length f 256
theorem setJoin_len (xs ys : List Sp) : (setJoin xs ys).length ≤ 256 := by
  unfold setJoin; split
  · exact spansOf_len _
  · simp
theorem setMeet_len (xs ys : List Sp) : (setMeet xs ys).length ≤ 256 := by
  unfold setMeet; split
  · exact spansOf_len _
  · simp
theorem setNot_len (xs : List Sp) : (setNot xs).length ≤ 256 := by
  unfold setNot; split
  · exact spansOf_len _
  · simp

end Go.Proofs.Ytplhbjpkkhhilaa

/- Lists of sets in memory, to read: eqSpanSS, heldSpanSS. -/
namespace Go.Proofs.Ytplhbjpkkhhilaa
set_option linter.unusedSimpArgs false
set_option linter.unusedVariables false
open Go.RowKit

/-- a row of sets -/
structure SSV (w : World) (lo : Nat) (K : Option Addr) (ck : Nat) (xss : List (List Sp)) : Prop where
  ex : ∀ (i : Nat) (xs : List Sp), xss[i]? = some xs → ∃ a A c, K = some a ∧ lo ≤ a.block ∧ w.cell? (a.add i) = some (.slice A xs.length c) ∧ Sps w lo A c xs
  cap : xss.length ≤ ck
  len : xss.length ≤ maxN
theorem SSV.keep {w w' : World} {lo : Nat} {K : Option Addr} {ck : Nat} {xss : List (List Sp)} (h : SSV w lo K ck xss) (hk : ∀ k, lo ≤ k → k < w.heap.size → w'.heap[k]? = w.heap[k]?) : SSV w' lo K ck xss := by
  refine ⟨fun i xs hi => ?_, h.cap, h.len⟩
  obtain ⟨a, A, c, e, hl, hc, hs⟩ := h.ex i xs hi
  have hb := World.block_lt_of_cell? w _ hc
  rw [add_block'] at hb
  refine ⟨a, A, c, e, hl, ?_, hs.keep hk⟩
  rw [World.cell?_of_block (w := w) (by rw [add_block']; exact hk a.block hl hb)]
  exact hc
theorem SSV.below {w w' : World} {lo : Nat} {K : Option Addr} {ck : Nat} {xss : List (List Sp)} (h : SSV w lo K ck xss) (hb : Below w.heap.size w w') : SSV w' lo K ck xss := h.keep fun k _ hk => hb.block k hk
theorem SSV.at_ {w : World} {lo : Nat} {K : Option Addr} {ck : Nat} {xss : List (List Sp)} (h : SSV w lo K ck xss) (i : Nat) (hi : i < xss.length) :
    ∃ a A c xs, K = some a ∧ Hid (xss[i]? = some xs) ∧ Hid (Sps w lo A c xs) ∧ w.cell? (a.add i) = some (.slice A xs.length c) := by
  have hg : xss[i]? = some xss[i] := List.getElem?_eq_getElem hi
  obtain ⟨a, A, c, e, _, hc, hs⟩ := h.ex i _ hg
  exact ⟨a, A, c, _, e, hg, hs, hc⟩

theorem take_eq_step {xss yss : List (List Sp)} {j : Nat} {xs ys : List Sp} (h : xss.take j = yss.take j) (hx : xss[j]? = some xs) (hy : yss[j]? = some ys) (e : xs = ys) : xss.take (j + 1) = yss.take (j + 1) := by
  rw [List.take_add_one, List.take_add_one, h, hx, hy, e]
end Go.Proofs.Ytplhbjpkkhhilaa

/- Marks in trees, and whether they are held. -/
namespace Go.Proofs.Ytplhbjpkkhhilaa
set_option linter.unusedSimpArgs false
set_option linter.unusedVariables false
open Go.RowKit

mutual
/-- how many numbers a tree holds in memory -/
def Rex.cnt : Rex → Nat
  | .mk _ s ks => 2 * s.length + cntL ks
def cntL : List Rex → Nat
  | [] => 0
  | r :: rs => (1 + r.cnt) + cntL rs
end
mutual
def markN : Int → Rex → Rex
  | q, .mk _ s ks => .mk q (markSps (q + 1) s) (markL (q + 1 + 2 * (s.length : Int)) ks)
def markL : Int → List Rex → List Rex
  | _, [] => []
  | q, r :: rs => markN q r :: markL (q + (1 + (r.cnt : Int))) rs
end
def markT (q : Int) (r : Rex) : Rex := .mk r.kind (markSps q r.set) (markL (q + 2 * (r.set.length : Int)) r.kids)
theorem markN_of (q : Int) (r : Rex) : markN q r = .mk q (markSps (q + 1) r.set) (markL (q + 1 + 2 * (r.set.length : Int)) r.kids) := by cases r; rw [markN]; rfl
theorem cnt_of (r : Rex) : r.cnt = 2 * r.set.length + cntL r.kids := by cases r; rw [Rex.cnt]; rfl
theorem markL_length : ∀ (ks : List Rex) (q : Int), (markL q ks).length = ks.length
  | [], q => by rw [markL]
  | r :: rs, q => by rw [markL, List.length_cons, List.length_cons, markL_length rs]
theorem markL_drop : ∀ (ks : List Rex) (q : Int) (j : Nat), (markL q ks).drop j = markL (q + cntL (ks.take j)) (ks.drop j)
  | ks, q, 0 => by simp [cntL]
  | [], q, j + 1 => by simp [markL, cntL]
  | r :: rs, q, j + 1 => by
    rw [markL, List.drop_succ_cons, markL_drop rs _ j, List.drop_succ_cons, List.take_succ_cons, cntL]
    congr 1
    omega
theorem markL_get {ks : List Rex} {q : Int} {j : Nat} {r : Rex} (h : ks[j]? = some r) : (markL q ks)[j]? = some (markN (q + cntL (ks.take j)) r) := by
  have hj := (List.getElem?_eq_some_iff.1 h).1
  have e : (markL q ks)[j]? = ((markL q ks).drop j)[0]? := by rw [List.getElem?_drop]; simp
  rw [e, markL_drop, List.drop_eq_getElem_cons hj, markL]
  have : ks[j] = r := by rw [List.getElem?_eq_getElem hj] at h; exact Option.some.inj h
  rw [this]
  rfl
theorem cntL_take {ks : List Rex} {j : Nat} {r : Rex} (h : ks[j]? = some r) : cntL (ks.take (j + 1)) = cntL (ks.take j) + (1 + r.cnt) := by
  induction ks generalizing j with
  | nil => simp at h
  | cons x xs ih =>
    cases j with
    | zero => simp at h; subst h; simp [cntL]
    | succ j => rw [List.take_succ_cons, cntL, ih (by simpa using h), List.take_succ_cons, cntL]; omega
theorem cntL_take_le (ks : List Rex) (j : Nat) : cntL (ks.take j) ≤ cntL ks := by
  induction ks generalizing j with
  | nil => simp [cntL]
  | cons x xs ih => cases j with
    | zero => simp [cntL]
    | succ j => rw [List.take_succ_cons, cntL, cntL]; have := ih j; omega
theorem mix_step {α : Type} (M ks : List α) (j : Nat) (r r' : α) (h : ks[j]? = some r) (h' : M[j]? = some r') (hl : M.length = ks.length) : (M.take j ++ ks.drop j).set j r' = M.take (j + 1) ++ ks.drop (j + 1) := by
  have hj := (List.getElem?_eq_some_iff.1 h).1
  have e : (M.take j).length = j := by rw [List.length_take]; omega
  rw [List.drop_eq_getElem_cons hj, List.set_append, if_neg (by omega), e, Nat.sub_self, List.set_cons_zero, List.take_add_one, h']
  simp
theorem mix_get {α : Type} (M ks : List α) (j : Nat) (hj : j < ks.length) (hl : M.length = ks.length) : (M.take j ++ ks.drop j)[j]? = ks[j]? := by
  have e : (M.take j).length = j := by rw [List.length_take]; omega
  rw [List.getElem?_append_right (by omega), e, Nat.sub_self, List.getElem?_drop]
  simp
theorem mix_length {α : Type} (M ks : List α) (j : Nat) (hl : M.length = ks.length) (hj : j ≤ ks.length) : (M.take j ++ ks.drop j).length = ks.length := by
  rw [List.length_append, List.length_take, List.length_drop]; omega

/-- an element of a row of trees that a call made -/
theorem OwnK.at_ {w : World} {fk : List Nat} {ks : List Rex} {K : Option Addr} {n ck : Nat} {L : List KInfo} (h : OwnK w fk ks (.slice K n ck) L) (j : Nat) {r : Rex} (hr : ks[j]? = some r) :
    ∃ g A c K' ck' fp, K = some ⟨g, 0, none⟩ ∧ Hid (L[j]? = some ⟨fp, .slice A r.set.length c, .slice K' r.kids.length ck'⟩) ∧ Hid (OwnT w fp r (.slice A r.set.length c) (.slice K' r.kids.length ck')) ∧
      w.cell? ⟨g, j * 3, none⟩ = some (.int .i64 r.kind) ∧ w.cell? ⟨g, j * 3 + 1, none⟩ = some (.slice A r.set.length c) ∧ w.cell? ⟨g, j * 3 + 2, none⟩ = some (.slice K' r.kids.length ck') ∧ w.frozen? ⟨g, j * 3, none⟩ = false := by
  obtain ⟨hL, hk, hn, hrr, fe, nd⟩ := h
  have hj := (List.getElem?_eq_some_iff.1 hr).1
  obtain ⟨x, hx⟩ : ∃ x, L[j]? = some x := ⟨L[j]'(by omega), List.getElem?_eq_getElem _⟩
  have hT := hrr j r x hr hx
  obtain ⟨g0, g1, g2⟩ := kcells_get ks L j r x hr hx hL
  obtain ⟨L', fk', _, _, hs, hk'⟩ := hT.parts
  obtain ⟨A, c, e1, _⟩ := hs.sps
  obtain ⟨K', ck', e2, _, _⟩ := own_row hk'.hk
  rcases hk.2 with ⟨_, h0⟩ | ⟨g, cap, cur, e, hg, hh, r2⟩
  · omega
  · injection e with ea eb ec
    subst ea eb ec
    obtain ⟨fp, y1, y2⟩ := x
    dsimp only at e1 e2 hT g1 g2
    subst e1 e2
    have hlen := kcells_length ks L hL
    exact ⟨g, A, c, K', ck', fp, rfl, hx, hT, (hk.cellAt _ (by omega)).trans g0, (hk.cellAt _ (by omega)).trans g1, (hk.cellAt _ (by omega)).trans g2, hk.frozenAt _⟩
theorem kcells_set : ∀ (rs : List Rex) (L : List KInfo) (j : Nat) (r : Rex) (q : Int) (s : List Sp) (ks : List Rex), rs[j]? = some r → rs.length = L.length → (kcells rs L).set (j * 3) (.int .i64 q) = kcells (rs.set j (.mk q s ks)) L
  | [], _, j, r, q, s, ks, h, _ => by simp at h
  | r' :: rs, [], j, r, q, s, ks, _, h => by simp at h
  | r' :: rs, x :: L, 0, r, q, s, ks, h, hl => by simp [kcells, kcell, Rex.kind]
  | r' :: rs, x :: L, j + 1, r, q, s, ks, h, hl => by
    have := kcells_set rs L j r q s ks (by simpa using h) (by simpa using hl)
    rw [show (j + 1) * 3 = j * 3 + 1 + 1 + 1 by omega]
    simp only [kcells, kcell, List.cons_append, List.nil_append, List.set_cons_succ, this]
theorem kcells_same : ∀ (rs : List Rex) (L : List KInfo) (j : Nat) (r r' : Rex), rs[j]? = some r → r'.kind = r.kind → kcells (rs.set j r') L = kcells rs L
  | [], _, j, r, r', h, _ => by simp at h
  | r0 :: rs, [], j, r, r', _, _ => by cases j <;> simp [kcells]
  | r0 :: rs, x :: L, 0, r, r', h, e => by simp at h; subst h; simp [kcells, kcell, e]
  | r0 :: rs, x :: L, j + 1, r, r', h, e => by
    have := kcells_same rs L j r r' (by simpa using h) e
    simp only [List.set_cons_succ, kcells, this]
theorem vblk_of_some {g n c : Nat} : vblk (.slice (some ⟨g, 0, none⟩) n c) = [g] := rfl
/-- a kind is stored -/
theorem OwnK.set_kind {w : World} {fk : List Nat} {ks : List Rex} {g n ck : Nat} {L : List KInfo} (h : OwnK w fk ks (.slice (some ⟨g, 0, none⟩) n ck) L) (j : Nat) {r : Rex} (hr : ks[j]? = some r) (q : Int) :
    OwnK (w.setCell ⟨g, j * 3, none⟩ (.int .i64 q)) fk (ks.set j (.mk q r.set r.kids)) (.slice (some ⟨g, 0, none⟩) n ck) L := by
  obtain ⟨hL, hk, hn, hrr, fe, nd⟩ := h
  have hl : (ks.set j (.mk q r.set r.kids)).length = ks.length := List.length_set
  have en : n = ks.length := by
    rcases hk.2 with ⟨h0, _⟩ | ⟨g', cap', cur, h0, _⟩
    · simp at h0
    · simp at h0; exact h0.2.1
  subst en
  have s1 := (hk.stored (j * 3) (.int .i64 q)).1
  rw [kcells_set ks L j r q r.set r.kids hr hL] at s1
  refine ⟨by rw [hl]; exact hL, by rw [hl]; exact s1, by rw [hl]; exact hn, fun i r' x hi hx => ?_, fe, nd⟩
  have stay : ∀ {r0 : Rex}, OwnT w x.fp r0 x.v1 x.v2 → OwnT (w.setCell ⟨g, j * 3, none⟩ (.int .i64 q)) x.fp r0 x.v1 x.v2 := fun hT => hT.stay fun b hb => by
    refine Below.heap_setCell _ _ _ _ fun e => ?_
    rw [fe, vblk_of_some] at nd
    exact (List.nodup_cons.1 nd).1 (by have := mem_fps.2 ⟨i, x, hx, hb⟩; rw [show b = g from e] at this; exact this)
  rw [List.getElem?_set] at hi
  split at hi
  · rename_i e
    subst e
    split at hi
    · injection hi with hi
      subst hi
      have hT := hrr j r x hr hx
      obtain ⟨L', fk', e1, e2, hs, hk'⟩ := hT.parts
      have hN := OwnT.of (k := q) hs hk' (by rw [← e1]; exact e2)
      rw [← e1] at hN
      exact stay hN
    · cases hi
  · exact stay (hrr i r' x hi hx)
/-- a kid is turned in its own blocks -/
theorem OwnK.set_kid {w w' : World} {fk : List Nat} {ks : List Rex} {v2 : Value} {L : List KInfo} (h : OwnK w fk ks v2 L) (j : Nat) {r r' : Rex} {x : KInfo} (hr : ks[j]? = some r) (hx : L[j]? = some x) (ht : Touch x.fp w w') (ho : OwnT w' x.fp r' x.v1 x.v2) (hk : r'.kind = r.kind) :
    OwnK w' fk (ks.set j r') v2 L := by
  have hlt := h.lt
  obtain ⟨hL, hkk, hn, hrr, fe, nd⟩ := h
  have hl : (ks.set j r').length = ks.length := List.length_set
  rw [fe] at nd hlt
  obtain ⟨nd1, nd2, nd3⟩ := List.nodup_append.1 nd
  refine ⟨by rw [hl]; exact hL, by rw [hl, kcells_same ks L j r r' hr hk]; exact own_move hkk fun g hg => ht.block g (hkk.lt g hg).2 fun h2 => nd3 g (mem_vblk.2 hg) g (mem_fps.2 ⟨j, x, hx, h2⟩) rfl, by rw [hl]; exact hn, fun i r0 y hi hy => ?_, fe, by rw [fe]; exact nd⟩
  rw [List.getElem?_set] at hi
  split at hi
  · rename_i e
    subst e
    split at hi
    · injection hi with hi
      subst hi
      rw [hx] at hy
      injection hy with hy
      subst hy
      exact ho
    · cases hi
  · rename_i hne
    have hT := hrr i r0 y hi hy
    refine hT.stay fun b hb => ht.block b (hT.lt b hb) fun h2 => ?_
    -- two kids have no block in common
    have key : ∀ (M : List KInfo) (i j : Nat) (x y : KInfo), (fps M).Nodup → M[i]? = some x → M[j]? = some y → i ≠ j → ∀ b, b ∈ x.fp → b ∈ y.fp → False := by
      intro M
      induction M with
      | nil => intro i j x y _ h; simp at h
      | cons z M ih =>
        intro i j x y hn hi hj hij b h1 h2
        rw [fps_cons] at hn
        obtain ⟨n1, n2, n3⟩ := List.nodup_append.1 hn
        cases i with
        | zero =>
          cases j with
          | zero => exact hij rfl
          | succ j => simp at hi hj; subst hi; exact n3 b h1 b (mem_fps.2 ⟨j, y, hj, h2⟩) rfl
        | succ i =>
          cases j with
          | zero => simp at hi hj; subst hj; exact n3 b h2 b (mem_fps.2 ⟨i, x, hi, h1⟩) rfl
          | succ j => exact ih i j x y n2 (by simpa using hi) (by simpa using hj) (by omega) b h1 h2
    exact key L j i x y nd2 hx hy hne b h2 hb
end Go.Proofs.Ytplhbjpkkhhilaa

/- markRex, markRexS. -/
namespace Go.Proofs.Ytplhbjpkkhhilaa
set_option linter.unusedSimpArgs false
set_option linter.unusedVariables false
open Go.RowKit

theorem set_mk (k : Int) (s : List Sp) (ks : List Rex) : (Rex.mk k s ks).set = s := rfl
theorem kids_mk (k : Int) (s : List Sp) (ks : List Rex) : (Rex.mk k s ks).kids = ks := rfl
theorem kind_mk (k : Int) (s : List Sp) (ks : List Rex) : (Rex.mk k s ks).kind = k := rfl
theorem OwnK.len_le {w : World} {fk : List Nat} {ks : List Rex} {v2 : Value} {L : List KInfo} (h : OwnK w fk ks v2 L) : ks.length ≤ 9223372036854775807 := h.hn

end Go.Proofs.Ytplhbjpkkhhilaa

/- heldRex, heldRexS. -/
namespace Go.Proofs.Ytplhbjpkkhhilaa
set_option linter.unusedSimpArgs false
set_option linter.unusedVariables false
open Go.RowKit

theorem markN_set (q : Int) (r : Rex) : (markN q r).set = markSps (q + 1) r.set := by rw [markN_of]; rfl
theorem markN_kids (q : Int) (r : Rex) : (markN q r).kids = markL (q + 1 + 2 * (r.set.length : Int)) r.kids := by rw [markN_of]; rfl
theorem markN_kind (q : Int) (r : Rex) : (markN q r).kind = q := by rw [markN_of]; rfl
end Go.Proofs.Ytplhbjpkkhhilaa

/- The contracts of the laws' functions on trees, bare. -/
namespace Go.Proofs.Ytplhbjpkkhhilaa
set_option linter.unusedSimpArgs false
set_option linter.unusedVariables false
open Go.RowKit

end Go.Proofs.Ytplhbjpkkhhilaa

/- Blocks and worlds behind marks; how many numbers a tree holds. -/
namespace Go.Proofs.Ytplhbjpkkhhilaa
set_option linter.unusedSimpArgs false
set_option linter.unusedVariables false
open Go.RowKit

theorem Blk.touch {w w' : World} {g : Nat} {cs : Array Value} {t : TypeId} {fp : List Nat} (h : Blk w g cs t) (ht : Touch fp w w') (hn : g ∉ fp) : Blk w' g cs t := ⟨(ht.block g h.lt hn).trans h.eq⟩
theorem below_touch {w w1 w' : World} {fp : List Nat} (h : Below w.heap.size w w1) (ht : Touch fp w1 w') (hf : ∀ b, b ∈ fp → w.heap.size ≤ b) : Below w.heap.size w w' := h.trans (ht.below hf h.size)
theorem cnt_size (r : Rex) : r.cnt ≤ 2 * r.size := by
  refine Rex.rec (motive_1 := fun r => r.cnt ≤ 2 * r.size) (motive_2 := fun l => cntL l ≤ 2 * sizeL l + l.length) ?_ ?_ ?_ r
  · intro k s ks ih
    rw [Rex.cnt, Rex.size]
    omega
  · simp [cntL]
  · intro x xs h1 h2
    rw [cntL, sizeL, List.length_cons]
    omega

end Go.Proofs.Ytplhbjpkkhhilaa
