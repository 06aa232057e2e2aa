/- Texts joined for the claims: E5 E6. -/
import Derived.Test.YtplhbjpkkhhilaaG1
import Derived.Test.YtplhbjpkkhhilaaG2
import Derived.Test.YtplhbjpkkhhilaaG3
import Derived.Deep.MidRow
import Derived.Deep.RegionHeld3
import Derived.Deep.DeepCutAuto
import Derived.Deep.CutBlock
/- Pieces of a text: 13 times 13 bools in memory. -/
namespace Go.Proofs.Ytplhbjpkkhhilaa
set_option linter.unusedSimpArgs false
set_option linter.unusedVariables false
open Go.RowKit

/-! ### the plain law of the pieces -/
def sub (t : Txt) (i j : Nat) : Txt := (t.take j).drop i
theorem sub_length (t : Txt) {i j : Nat} (h : j ≤ t.length) : (sub t i j).length = j - i := by rw [sub, List.length_drop, List.length_take, Nat.min_eq_left h]
theorem sub_take (t : Txt) (i j m : Nat) (h : i + m ≤ j) : (sub t i j).take m = sub t i (i + m) := by
  unfold sub
  rw [List.take_drop, List.take_take, Nat.min_eq_left (by omega), Nat.add_comm]
theorem sub_drop (t : Txt) (i j m : Nat) : (sub t i j).drop m = sub t (i + m) j := by unfold sub; rw [List.drop_drop]
/-- the piece from i to j is like r -/
def pc (r : Rex) (t : Txt) (i j : Nat) : Bool := lang r (sub t i j)
theorem catGo_any (f g : Txt → Bool) (t : Txt) : ∀ m k, catGo f g t m k = (List.range m).any fun d => f (t.take (k + d)) && g (t.drop (k + d))
  | 0, k => rfl
  | m + 1, k => by
    rw [catGo, catGo_any f g t m (k + 1), List.range_succ_eq_map, List.any_cons, List.any_map]
    congr 1
    rw [Bool.eq_iff_iff, List.any_eq_true, List.any_eq_true]
    simp only [Function.comp, Nat.add_assoc, Nat.add_comm, Nat.add_left_comm]
theorem pc_cat (s : List Sp) (a b : Rex) (t : Txt) {i j : Nat} (hij : i ≤ j) (hj : j ≤ t.length) : pc (.mk 3 s [a, b]) t i j = (List.range (j - i + 1)).any fun d => pc a t i (i + d) && pc b t (i + d) j := by
  unfold pc
  rw [lang3, catB, catGo_any, sub_length t hj, Bool.eq_iff_iff, List.any_eq_true, List.any_eq_true]
  refine exists_congr fun d => and_congr_right fun hd => ?_
  simp at hd
  rw [Nat.zero_add, sub_take t i j d (by omega), sub_drop]
theorem pc_star (s : List Sp) (a : Rex) (t : Txt) {i j : Nat} (hij : i ≤ j) (hj : j ≤ t.length) : pc (.mk 5 s [a]) t i j = (decide (j - i = 0) || (List.range (j - i)).any fun d => pc a t i (i + d + 1) && pc (.mk 5 s [a]) t (i + d + 1) j) := by
  unfold pc
  rw [lang5, starB_first, sub_length t hj]
  congr 1
  · rw [Bool.eq_iff_iff, List.isEmpty_iff, ← List.length_eq_zero_iff, sub_length t hj, decide_eq_true_eq]
  · rw [Bool.eq_iff_iff, List.any_eq_true, List.any_eq_true]
    refine exists_congr fun d => and_congr_right fun hd => ?_
    simp at hd
    rw [sub_take t i j (d + 1) (by omega), sub_drop, lang5, Nat.add_assoc]
theorem pc_empty (s : List Sp) (ks : List Rex) (t : Txt) {i j : Nat} (hj : j ≤ t.length) : pc (.mk 2 s ks) t i j = decide (j - i = 0) := by
  unfold pc
  rw [lang2, Bool.eq_iff_iff, List.isEmpty_iff, ← List.length_eq_zero_iff, sub_length t hj, decide_eq_true_eq]
theorem pc_set_no (s : List Sp) (ks : List Rex) (t : Txt) {i j : Nat} (hj : j ≤ t.length) (h : j - i ≠ 1) : pc (.mk 1 s ks) t i j = false := by
  unfold pc
  rw [lang1]
  have e := sub_length t (i := i) hj
  match sub t i j, e with
  | [], _ => rfl
  | [x], e => simp at e; omega
  | x :: y :: l, _ => rfl
theorem pc_set (s : List Sp) (ks : List Rex) (t : Txt) {i : Nat} {c : UInt8} (hc : t[i]? = some c) : pc (.mk 1 s ks) t i (i + 1) = setHas s (c.toNat : Int) := by
  have hi := (List.getElem?_eq_some_iff.1 hc).1
  have e : sub t i (i + 1) = [c] := by
    unfold sub
    rw [List.take_add_one, hc, List.drop_append_of_le_length (by rw [List.length_take]; omega), List.drop_of_length_le (by rw [List.length_take]; omega)]
    rfl
  unfold pc
  rw [lang1, e]
  rfl

/-! ### in memory -/
abbrev TPc : Nat := 74
def pcells (f : Nat → Nat → Bool) : List Value := (List.range 169).map fun i => .bool (f (i / 13) (i % 13))
theorem pcells_length (f : Nat → Nat → Bool) : (pcells f).length = 169 := by simp [pcells]
theorem pcells_get (f : Nat → Nat → Bool) {i j : Nat} (hi : i < 13) (hj : j < 13) : (pcells f)[i * 13 + j]? = some (.bool (f i j)) := by
  have h : i * 13 + j < 169 := by omega
  have e1 : (i * 13 + j) / 13 = i := by omega
  have e2 : (i * 13 + j) % 13 = j := by omega
  simp [pcells, h, e1, e2]
theorem pcells_one (f : Nat → Nat → Bool) : ∀ u ∈ pcells f, u.oneCell' = true := by
  intro u hu
  simp only [pcells, List.mem_map] at hu
  obtain ⟨i, _, rfl⟩ := hu
  rfl
theorem sizePc : (Try.prog.info? TPc).map (·.size) = some 169 := by kernel_rfl
theorem sizePc' (f : Nat → Nat → Bool) : (Try.prog.info? TPc).map (·.size) = some (pcells f).length := by rw [pcells_length]; exact sizePc
theorem zeroPc : (Try.prog.info? TPc).map (·.zero) = some (some (.agg (pcells fun _ _ => false).toArray)) := by kernel_rfl
structure PRow (w : World) (g o : Nat) (f : Nat → Nat → Bool) : Prop where
  at_ : w.rangeAt g o (pcells f)
  th : w.there g o 169
theorem PRow.lt {w : World} {g o : Nat} {f : Nat → Nat → Bool} (h : PRow w g o f) : g < w.heap.size := by
  have := World.block_lt_of_cell? w _ (h.at_ 0 _ (pcells_get f (i := 0) (j := 0) (by omega) (by omega)))
  exact this
theorem PRow.keep {w w' : World} {g o : Nat} {f : Nat → Nat → Bool} (h : PRow w g o f) (hb : w'.heap[g]? = w.heap[g]?) : PRow w' g o f :=
  ⟨fun j v hj => (World.cell?_of_block (w := w) hb).trans (h.at_ j v hj), fun j hj => ⟨by rw [World.cell?_of_block (w := w) hb]; exact (h.th j hj).1, by rw [World.frozen?_of_block (w := w) hb]; exact (h.th j hj).2⟩⟩
theorem PRow.below {w w' : World} {g o : Nat} {f : Nat → Nat → Bool} (h : PRow w g o f) (hb : Below w.heap.size w w') : PRow w' g o f := h.keep (hb.block _ h.lt)
theorem PRow.cell {w : World} {g : Nat} {f : Nat → Nat → Bool} (h : PRow w g 0 f) {i j : Nat} (hi : i < 13) (hj : j < 13) : w.cell? ⟨g, i * 13 + j, none⟩ = some (.bool (f i j)) := by
  have := h.at_ _ _ (pcells_get f hi hj)
  rwa [Nat.zero_add] at this
theorem PRow.free {w : World} {g : Nat} {f : Nat → Nat → Bool} (h : PRow w g 0 f) {i j : Nat} (hi : i < 13) (hj : j < 13) : w.frozen? ⟨g, i * 13 + j, none⟩ = false := by
  have := (h.th (i * 13 + j) (by omega)).2
  rwa [Nat.zero_add] at this
theorem Blk.prow {w : World} {g : Nat} {f : Nat → Nat → Bool} {t : TypeId} (h : Blk w g (pcells f).toArray t) : PRow w g 0 f := by
  refine ⟨fun j v hj => ?_, fun j hj => ⟨?_, h.free _⟩⟩
  · rw [Nat.zero_add, h.cell]; simpa using hj
  · rw [Nat.zero_add, h.cell]
    have : j < (pcells f).length := by rw [pcells_length]; exact hj
    simp [this]
theorem pcells_set (f : Nat → Nat → Bool) {i j : Nat} (hi : i < 13) (hj : j < 13) (b : Bool) : (pcells f).set (i * 13 + j) (.bool b) = pcells fun i' j' => if i' = i ∧ j' = j then b else f i' j' := by
  apply List.ext_getElem?
  intro k
  rw [List.getElem?_set]
  by_cases hk : k < 169
  · have e : (pcells f)[k]? = some (.bool (f (k / 13) (k % 13))) := by simp [pcells, hk]
    have e' : (pcells fun i' j' => if i' = i ∧ j' = j then b else f i' j')[k]? = some (.bool (if k / 13 = i ∧ k % 13 = j then b else f (k / 13) (k % 13))) := by simp [pcells, hk]
    rw [e, e', pcells_length]
    by_cases h : i * 13 + j = k
    · rw [if_pos h, if_pos (by omega), if_pos (by omega)]
    · rw [if_neg h, if_neg (by omega)]
  · rw [List.getElem?_eq_none (by rw [pcells_length]; omega), List.getElem?_eq_none (by rw [pcells_length]; omega), pcells_length]
    split
    · rw [if_neg (by omega)]
    · rfl
theorem PRow.set {w : World} {g : Nat} {f : Nat → Nat → Bool} (h : Blk w g (pcells f).toArray TPc) {i j : Nat} (hi : i < 13) (hj : j < 13) (b : Bool) : Blk (w.setCell ⟨g, i * 13 + j, none⟩ (.bool b)) g (pcells fun i' j' => if i' = i ∧ j' = j then b else f i' j').toArray TPc := by
  have := h.set (i * 13 + j) (.bool b)
  rwa [List.setIfInBounds_toArray, pcells_set f hi hj] at this

end Go.Proofs.Ytplhbjpkkhhilaa

/- piecesOf: all pieces of a text that are like a tree. -/
namespace Go.Proofs.Ytplhbjpkkhhilaa
set_option linter.unusedSimpArgs false
set_option linter.unusedVariables false
open Go.RowKit

abbrev T2P : Nat := 85
abbrev TR : Nat := 34
theorem zero2P : (Try.prog.info? T2P).map (·.zero) = some (some (.agg ((pcells fun _ _ => false) ++ (pcells fun _ _ => false)).toArray)) := by kernel_rfl
theorem tl_len' (t : ByteArray) : t.data.toList.length = t.size := by rw [Array.length_toList]; rfl
def pcF (r : Rex) (t : Txt) (i j : Nat) : Bool := decide (i ≤ j ∧ j ≤ t.length) && pc r t i j
/-- the pieces of fewer than n signs, and those of n signs that begin ahead of i -/
def pcU (r : Rex) (t : Txt) (n i x y : Nat) : Bool := decide (x ≤ y ∧ y ≤ t.length ∧ (y - x < n ∨ y - x = n ∧ x < i)) && pc r t x y
theorem pcU_zero (r : Rex) (t : Txt) : pcU r t 0 0 = fun _ _ => false := by
  funext x y
  unfold pcU
  simp
theorem pcU_row (r : Rex) (t : Txt) {n i : Nat} (h : t.length < n + i) : pcU r t n i = pcU r t (n + 1) 0 := by
  funext x y
  unfold pcU
  congr 1
  rw [decide_eq_decide]
  omega
theorem pcU_done (r : Rex) (t : Txt) {n : Nat} (h : t.length < n) : pcU r t n 0 = pcF r t := by
  funext x y
  unfold pcU pcF
  congr 1
  rw [decide_eq_decide]
  omega
theorem pcU_set (r : Rex) (t : Txt) {n i : Nat} (h : i + n ≤ t.length) : (fun x y => if x = i ∧ y = i + n then pc r t i (i + n) else pcU r t n i x y) = pcU r t n (i + 1) := by
  funext x y
  by_cases e : x = i ∧ y = i + n
  · obtain ⟨rfl, rfl⟩ := e
    rw [if_pos ⟨rfl, rfl⟩]
    unfold pcU
    rw [decide_eq_true (by omega)]
    rfl
  · rw [if_neg e]
    unfold pcU
    congr 1
    rw [decide_eq_decide]
    omega
theorem pcU_eq (r : Rex) (t : Txt) {n i x y : Nat} (h1 : x ≤ y) (h2 : y ≤ t.length) (h3 : y - x < n) : pcU r t n i x y = pc r t x y := by
  unfold pcU
  rw [decide_eq_true (by omega)]
  rfl
theorem pcF_eq (r : Rex) (t : Txt) {x y : Nat} (h1 : x ≤ y) (h2 : y ≤ t.length) : pcF r t x y = pc r t x y := by
  unfold pcF
  rw [decide_eq_true (by omega)]
  rfl
def PieceOk (r : Rex) : Prop := ∀ (d : Nat) (t : ByteArray) (v1 v2 : Value) (w : World) (lo : Nat), formed d r = true → t.size ≤ 12 → RexV w lo r (.int .i64 r.kind) v1 v2 →
  Calls Try.prog 60 #[.agg #[.int .i64 r.kind, v1, v2], .string t] w fun e w' => e = .returned (.agg (pcells (pcF r t.data.toList)).toArray) ∧ Below w.heap.size w w'
/-- the kids' pieces, so far -/
def pcK (ks : List Rex) (t : Txt) (j n : Nat) : Nat → Nat → Bool := fun x y => if n < j then pcF (ks.getD n default) t x y else false
theorem agg_store (a b c : List Value) (ha : a.length = 169) (hb : b.length = 169) (hc : c.length = 169) : ((a ++ b).take (0 * 169) ++ c ++ (a ++ b).drop (0 * 169 + c.length) = c ++ b) ∧ ((a ++ b).take (1 * 169) ++ c ++ (a ++ b).drop (1 * 169 + c.length) = a ++ c) := by
  refine ⟨?_, ?_⟩
  · rw [Nat.zero_mul, List.take_zero, List.nil_append, Nat.zero_add, hc, ← ha, List.drop_left]
  · rw [Nat.one_mul, ← ha, List.take_left, List.drop_of_length_le (by rw [List.length_append]; omega), List.append_nil]
set_option maxRecDepth 100000 in
theorem pcK_step {ks : List Rex} {j : Nat} {r : Rex} (hr : ks[j]? = some r) (hj : j < 2) (t : Txt) :
    ((pcells (pcK ks t j 0) ++ pcells (pcK ks t j 1)).toArray.toList.take (j * 169) ++ pcells (pcF r t) ++ (pcells (pcK ks t j 0) ++ pcells (pcK ks t j 1)).toArray.toList.drop (j * 169 + (pcells (pcF r t)).length)) = pcells (pcK ks t (j + 1) 0) ++ pcells (pcK ks t (j + 1) 1) := by
  have hg : ks[j]?.getD default = r := by rw [hr]; rfl
  obtain ⟨e0, e1⟩ := agg_store (pcells (pcK ks t j 0)) (pcells (pcK ks t j 1)) (pcells (pcF r t)) (pcells_length _) (pcells_length _) (pcells_length _)
  match j, hj with
  | 0, _ => rw [e0]; unfold pcK; simp only [List.getD_eq_getElem?_getD, hg]; simp
  | 1, _ => rw [e1]; unfold pcK; simp only [List.getD_eq_getElem?_getD, hg]; simp
theorem zc68 : Try.zeroCells74 = (pcells fun _ _ => false).toArray := by kernel_rfl
theorem zc87 : Try.zeroCells85 = ((pcells fun _ _ => false) ++ (pcells fun _ _ => false)).toArray := by kernel_rfl

theorem Blk.setCells_ex {g : Nat} {t : TypeId} : ∀ (vs : List Value) (o : Nat) (w : World) (cur : Array Value), Blk w g cur t → ∃ cur', Blk (w.setCells g o vs) g cur' t ∧ cur'.size = cur.size
  | [], _, _, cur, h => ⟨cur, h, rfl⟩
  | v :: r, o, w, cur, h => by
    rw [World.setCells]
    obtain ⟨c', h', e⟩ := Blk.setCells_ex r (o + 1) _ _ (h.set o v)
    exact ⟨c', h', by rw [e]; simp⟩
theorem Blk.setCells_same {g : Nat} {t : TypeId} {w : World} {cur : Array Value} (h : Blk w g cur t) (cs : List Value) (hl : cs.length = cur.size) : Blk (w.setCells g 0 cs) g cs.toArray t := by
  obtain ⟨c', h', e⟩ := Blk.setCells_ex cs 0 w cur h
  have hr := World.rangeAt_setCells_same w g 0 cs fun j hj => ⟨by rw [Nat.zero_add, h.cell]; simp [← hl, hj], h.free _⟩
  have : c' = cs.toArray := by
    refine Array.ext (by simp; omega) fun i h1 h2 => ?_
    have h3 : i < cs.length := by simpa using h2
    have := hr i _ (List.getElem?_eq_getElem h3)
    rw [Nat.zero_add, h'.cell, Array.getElem?_eq_getElem h1] at this
    injection this with this
  exact this ▸ h'
theorem Blk.setCells_far {g b : Nat} {t : TypeId} {cs : Array Value} (hn : g ≠ b) : ∀ (vs : List Value) (o : Nat) (w : World), Blk w g cs t → Blk (w.setCells b o vs) g cs t
  | [], _, _, h => h
  | v :: r, o, w, h => by
    rw [World.setCells]
    exact Blk.setCells_far hn r (o + 1) _ (h.far hn v)
theorem Blk.setCells_far' {g b : Nat} {t : TypeId} {cs : Array Value} {w : World} (h : Blk w g cs t) (hn : g ≠ b) (vs : List Value) (o : Nat) : Blk (w.setCells b o vs) g cs t := Blk.setCells_far hn vs o w h
theorem below_setCells {b : Nat} {a : World} (hb : a.heap.size ≤ b) : ∀ (vs : List Value) (o : Nat) (w : World), Below a.heap.size a w → Below a.heap.size a (w.setCells b o vs)
  | [], _, _, h => h
  | v :: r, o, w, h => by
    rw [World.setCells]
    exact below_setCells hb r (o + 1) _ (below_set h hb v)
def catAcc (a b : Rex) (t : Txt) (q j d : Nat) : Bool := (List.range d).any fun x => pc a t q (q + x) && pc b t (q + x) (q + j)
theorem catAcc_succ (a b : Rex) (t : Txt) (q j d : Nat) : catAcc a b t q j (d + 1) = (catAcc a b t q j d || (pc a t q (q + d) && pc b t (q + d) (q + j))) := by
  unfold catAcc
  rw [List.range_succ, List.any_append]
  simp
theorem catAcc_done (s : List Sp) (a b : Rex) (t : Txt) {q j d : Nat} (hd : d = j + 1) (h : q + j ≤ t.length) : pc (.mk 3 s [a, b]) t q (q + j) = catAcc a b t q j d := by
  rw [pc_cat s a b t (Nat.le_add_right _ _) h, hd, Nat.add_sub_cancel_left]
  rfl
def starAcc (s : List Sp) (a : Rex) (t : Txt) (q j d : Nat) : Bool := decide (j = 0) || (List.range d).any fun x => pc a t q (q + x + 1) && pc (.mk 5 s [a]) t (q + x + 1) (q + j)
theorem starAcc_succ (s : List Sp) (a : Rex) (t : Txt) (q j d : Nat) : starAcc s a t q j (d + 1) = (starAcc s a t q j d || (pc a t q (q + d + 1) && pc (.mk 5 s [a]) t (q + d + 1) (q + j))) := by
  unfold starAcc
  rw [List.range_succ, List.any_append, Bool.or_assoc]
  simp
theorem starAcc_done (s : List Sp) (a : Rex) (t : Txt) {q j d : Nat} (hd : d = j) (h : q + j ≤ t.length) : pc (.mk 5 s [a]) t q (q + j) = starAcc s a t q j d := by
  rw [pc_star s a t (Nat.le_add_right _ _) h, hd, Nat.add_sub_cancel_left]
  rfl
theorem there_new1 (w : World) {zc : Array Value} {t : TypeId} (hz : zc = (pcells fun _ _ => false).toArray) {o : Obj} : ((w.alloc (.cells zc t (0, 0))).alloc o).drew.there w.heap.size 0 169 := by
  have h : Blk (w.alloc (.cells (pcells fun _ _ => false).toArray t (0, 0))) w.heap.size (pcells fun _ _ => false).toArray t := blk_new w _ t
  rw [hz]
  exact (World.there_drew _ _ _ _).2 (h.alloc o).prow.th
theorem there_new2 (w : World) {zc : Array Value} {t : TypeId} (hz : zc = (pcells fun _ _ => false).toArray) {o : Obj} : ((w.alloc o).alloc (.cells zc t (0, 0))).drew.there (w.heap.size + 1) 0 169 := by
  have h := blk_new (w.alloc o) (pcells fun _ _ => false).toArray t
  rw [hz]
  have e : (w.alloc o).heap.size = w.heap.size + 1 := by simp
  rw [e] at h
  exact (World.there_drew _ _ _ _).2 h.prow.th
set_option maxRecDepth 100000 in
set_option maxHeartbeats 3000000 in
theorem piecesOf_c (r : Rex) : PieceOk r := by
  refine Rex.ind (p := PieceOk) (fun k s ks ih => ?_) r
  intro d t v1 v2 w lo hd ht h
  obtain ⟨A, c, K, ck, _, rfl, rfl, hs, hk⟩ := h.parts
  dsimp only [Rex.kind, Rex.set, Rex.kids] at hs hk ⊢
  clear h
  have hkn : ks.length ≤ 2 := by
    rcases formed_shape hd with ⟨_, rfl⟩ | ⟨_, a, rfl, _⟩ | ⟨_, a, b, rfl, _⟩ <;> simp
  obtain ⟨wa, hwa⟩ : ∃ x, x = ((w.alloc (.cells #[.int .i64 k, .slice A s.length c, .slice K ks.length ck] TR)).alloc (.cells Try.zeroCells74 TPc (0, 0))).alloc (.cells Try.zeroCells85 T2P (0, 0)) := ⟨_, rfl⟩
  have hbb : Below w.heap.size w wa := by rw [hwa]; exact below_alloc (below_alloc (below_alloc (Below.refl _ _) _) _) _
  have m0 : Blk wa w.heap.size #[.int .i64 k, .slice A s.length c, .slice K ks.length ck] TR := by rw [hwa]; exact ((blk_new w _ _).alloc _).alloc _
  have m1 : Blk wa (w.heap.size + 1) (pcells fun _ _ => false).toArray TPc := by
    rw [hwa, ← zc68]
    have := (blk_new (w.alloc (.cells #[.int .i64 k, .slice A s.length c, .slice K ks.length ck] TR)) Try.zeroCells74 TPc).alloc (.cells Try.zeroCells85 T2P (0, 0))
    simpa using this
  have m2 : Blk wa (w.heap.size + 2) (pcells (pcK ks t.data.toList 0 0) ++ pcells (pcK ks t.data.toList 0 1)).toArray T2P := by
    have e : ∀ n, pcK ks t.data.toList 0 n = fun _ _ => false := fun n => by unfold pcK; simp
    rw [e, e, hwa, ← zc87]
    have := blk_new ((w.alloc (.cells #[.int .i64 k, .slice A s.length c, .slice K ks.length ck] TR)).alloc (.cells Try.zeroCells74 TPc (0, 0))) Try.zeroCells85 T2P
    simpa using this
  have hz : wa.heap.size = w.heap.size + 3 := by rw [hwa]; simp
  replace hwa := hwa.symm
  have HS := Lib.hid hs
  have HK := Lib.hid hk
  have HB := Lib.hid hbb
  have HZ := Lib.hid hz
  have M0 := Lib.hid m0
  have M1 := Lib.hid m1
  have M2 := Lib.hid m2
  have HD := Lib.hid hd
  have HT := Lib.hid (tl_len' t)
  have n2 : wa.cell? ⟨w.heap.size, 2, none⟩ = some (.slice K ks.length ck) := by rw [m0.cell]; rfl
  clear hbb m0 m1 m2 hs hk hd hz
  go_enter Try.func60, Try.ntmps60
  go_wp2
  clear hwa
  go_loopg [21] (ks.length) (fun n i wr => ∃ j : Nat, j + n = ks.length ∧ i = .int .i64 j ∧ Hid (Blk wr (w.heap.size + 2) (pcells (pcK ks t.data.toList j 0) ++ pcells (pcK ks t.data.toList j 1)).toArray T2P) ∧ Hid (Blk wr (w.heap.size + 1) (pcells fun _ _ => false).toArray TPc) ∧ Hid (Blk wr w.heap.size #[.int .i64 k, .slice A s.length c, .slice K ks.length ck] TR) ∧ Hid (Below w.heap.size w wr) ∧ Hid (w.heap.size + 3 ≤ wr.heap.size))
  case atStart => exact ⟨0, by omega, rfl, M2, M1, M0, HB, by show _ ≤ _; rw [HZ.out]; exact Nat.le_refl _⟩
  case round =>
    clear M0 M1 M2 n2
    obtain ⟨j, hj, rfl, M2, M1, M0, HW, HL⟩ := hrel
    by_cases hlt : j < ks.length
    · obtain ⟨a, r, x1, x2, rfl, HR, HD', HV, c0, c1, c2⟩ := (HK.out.below HW.out).at_ j hlt
      obtain ⟨A2, k2, K2, q2, _, rfl, rfl, _⟩ := HV.out.parts
      have hmem := List.mem_of_getElem? HR.out
      have hf := (formed_node HD.out).2.2.2.2 r hmem
      have i0 : (0 : Int) ≤ (j : Int) := by omega
      have i1 : (j : Int) < (ks.length : Int) := by omega
      have i2 : (j : Int) < 2 := by omega
      clear HD'
      go_wp2_with fail
      refine (ih r hmem (d - 1) t _ _ _ _ hf ht (HV.out.under (below_alloc (Below.refl _ _) _))).mono ?_
      rintro e w1 ⟨rfl, b1⟩
      have B1 : Hid (Below wr.heap.size wr w1) := below_then (below_alloc (Below.refl _ _) _) b1
      clear c0 c1 c2 b1
      go_wp2_with (first
        | (refine ev_store (o := ⟨none, .store _ _ _, _, _, _, _⟩) rfl rfl TPc (.tmp 30) (.tmp 29) rfl (w.heap.size + 2) (j * 169) rfl (pcells (pcF r t.data.toList)) rfl _ T2P (M2.out.below B1.out) (sizePc' _) (by rw [List.size_toArray, List.length_append, pcells_length, pcells_length, pcells_length]; omega) (pcells_one _) ?_; intro w5 hX5 hg5; rw [pcK_step HR.out (by omega)] at hX5; have HX5 := Lib.hid hX5; have HG5 := Lib.hid hg5; clear hX5 hg5))
      go_roundg (gk - 1)
      case measure => omega
      case rel =>
        exact ⟨j + 1, by omega, by go_num, HX5, (M1.out.below B1.out).grown HG5.out (by rintro k' e; injection e; omega), (M0.out.below B1.out).grown HG5.out (by rintro k' e; injection e; omega), (below_then HW.out B1.out).grown HG5.out (Nat.le_trans HW.out.size B1.out.size) (by rintro k' e; injection e; omega), Nat.le_trans HL.out (Nat.le_trans B1.out.size HG5.out.size)⟩
    · have hj' : j = ks.length := by omega
      subst hj'
      have hl := HL.out
      obtain ⟨F0, hF0⟩ : ∃ F, F = pcK ks t.data.toList ks.length 0 := ⟨_, rfl⟩
      obtain ⟨F1, hF1⟩ : ∃ F, F = pcK ks t.data.toList ks.length 1 := ⟨_, rfl⟩
      rw [← hF0, ← hF1] at M2
      obtain ⟨cs0, hcs0⟩ : ∃ F, F = pcells F0 := ⟨_, rfl⟩
      obtain ⟨cs1, hcs1⟩ : ∃ F, F = pcells F1 := ⟨_, rfl⟩
      rw [← hcs0, ← hcs1] at M2
      have l0 : cs0.length = 169 := by rw [hcs0, pcells_length]
      have l1 : cs1.length = 169 := by rw [hcs1, pcells_length]
      have o0 : ∀ v ∈ cs0, v.oneCell' = true := by rw [hcs0]; exact pcells_one _
      have o1 : ∀ v ∈ cs1, v.oneCell' = true := by rw [hcs1]; exact pcells_one _
      have hu := Try.underlying74
      have hi0 : (Try.prog.info? TPc).map (·.size) = some cs0.length := by rw [l0]; exact sizePc
      have hi1 : (Try.prog.info? TPc).map (·.size) = some cs1.length := by rw [l1]; exact sizePc
      have r0 : wr.rangeAt (w.heap.size + 2) 0 cs0 := fun q v hq => by
        rw [Nat.zero_add, M2.out.cell]; simpa [List.getElem?_append_left (List.getElem?_eq_some_iff.1 hq).1] using hq
      have r1 : wr.rangeAt (w.heap.size + 2) 169 cs1 := fun q v hq => by
        rw [M2.out.cell]; simpa [List.getElem?_append_right, l0] using hq
      have T0 : ((wr.alloc (.cells Try.zeroCells74 TPc (0, 0))).alloc (.cells Try.zeroCells74 TPc (0, 0))).drew.there wr.heap.size 0 169 := there_new1 _ zc68
      have T1 : ((wr.alloc (.cells Try.zeroCells74 TPc (0, 0))).alloc (.cells Try.zeroCells74 TPc (0, 0))).drew.there (wr.heap.size + 1) 0 169 := there_new2 _ zc68
      have T2 := World.there_setCells T0 (wr.heap.size + 1) 0 cs0
      have T3 := World.there_setCells T1 wr.heap.size 0 cs0
      have z0 : cs0.toArray.size = 169 := by simp [l0]
      have z1 : cs1.toArray.size = 169 := by simp [l1]
      replace hF0 := Lib.hid hF0
      replace hF1 := Lib.hid hF1
      replace hcs0 := Lib.hid hcs0
      replace hcs1 := Lib.hid hcs1
      go_wp2_with fail
      go_cut [8, 9] (fun s8 s9 wx => ∃ g8 g9, s8 = .pointer (some ⟨g8, 0, none⟩) ∧ s9 = .pointer (some ⟨g9, 0, none⟩) ∧ Hid (Blk wx g8 cs0.toArray TPc) ∧ Hid (Blk wx g9 cs1.toArray TPc) ∧ Hid (g8 ≠ g9) ∧ Hid (wr.heap.size ≤ g8 ∧ wr.heap.size ≤ g9) ∧ Hid (Below wr.heap.size wr wx))
      case first =>
        refine wp_region_held_drew (S := fun w' => w'.rangeAt (w.heap.size + 2) 0 cs0 ∧ w'.rangeAt (w.heap.size + 2) 169 cs1) (by kernel_rfl) ⟨(World.rangeAt_drew _ _ _ _).2 r0, (World.rangeAt_drew _ _ _ _).2 r1⟩ (fun hHeld => ?_)
        refine wpAnyH_take (i := 0) (v := .pointer (some ⟨w.heap.size + 2, 0, none⟩)) rfl (by kernel_rfl) (by kernel_rfl) (by kernel_rfl) (fun _ _ _ h => h) (Or.inl ⟨by rfl, ?_⟩) (by assumption) ?_
        · intro w' hSw
          go_simp
        simp only [Act.put, List.setIfInBounds_toArray, List.set_cons_zero, List.set_cons_succ]
        refine wpAnyH_take (i := 1) (v := .agg cs0.toArray) rfl (by kernel_rfl) (by kernel_rfl) (by kernel_rfl) (fun _ _ _ h => h) (yieldsIf_load_mid (by rfl) _ _ rfl (w.heap.size + 2) 0 rfl cs0 _ (fun w h => h.1) hu rfl hi0) (by assumption) ?_
        simp only [Act.put, List.setIfInBounds_toArray, List.set_cons_zero, List.set_cons_succ]
        refine wpAnyH_take (i := 2) (v := .pointer (some ⟨w.heap.size + 2, 169, none⟩)) rfl (by kernel_rfl) (by kernel_rfl) (by kernel_rfl) (fun _ _ _ h => h) (Or.inl ⟨by rfl, ?_⟩) (by assumption) ?_
        · intro w' hSw
          go_simp
        simp only [Act.put, List.setIfInBounds_toArray, List.set_cons_zero, List.set_cons_succ]
        refine wpAnyH_take (i := 3) (v := .agg cs1.toArray) rfl (by kernel_rfl) (by kernel_rfl) (by kernel_rfl) (fun _ _ _ h => h) (yieldsIf_load_mid (by rfl) _ _ rfl (w.heap.size + 2) 169 rfl cs1 _ (fun w h => h.2) hu rfl hi1) (by assumption) ?_
        simp only [Act.put, List.setIfInBounds_toArray, List.set_cons_zero, List.set_cons_succ]
        refine wpAnyH_ready (rs := [4, 5]) (by kernel_rfl) (by simp) ?_
        refine AllReadyH.cons rfl (fun K hK => ?_) (AllReadyH.cons rfl (fun K hK => ?_) AllReadyH.nil)
        · go_simp
          refine hK.out _ _ ⟨World.rangeAt_alloc hHeld.1 _, World.rangeAt_alloc hHeld.2 _⟩ (fun hHeld => ?_)
          clear hK K
          try simp only [Act.put, List.setIfInBounds_toArray, List.set_cons_zero, List.set_cons_succ]
          refine wpAnyH_ready (rs := [5]) (by kernel_rfl) (by simp) ?_
          refine AllReadyH.cons rfl (fun K hK => ?_) AllReadyH.nil
          go_simp
          refine hK.out _ _ ⟨World.rangeAt_alloc hHeld.1 _, World.rangeAt_alloc hHeld.2 _⟩ (fun hHeld => ?_)
          clear hK K
          try simp only [Act.put, List.setIfInBounds_toArray, List.set_cons_zero, List.set_cons_succ]
          refine wpAnyH_ready (rs := [6]) (by kernel_rfl) (by simp) ?_
          refine AllReadyH.cons rfl (fun K hK => ?_) AllReadyH.nil
          rw [if_pos (by rfl)]
          refine wp_store_mid _ _ _ rfl wr.heap.size 0 cs0.toArray rfl rfl (by rw [z0]; exact T0) (by rw [z0, ← l0]; exact hi0) (all_oneCell_toArray o0) ?_
          try simp only [Act.put, List.setIfInBounds_toArray, List.set_cons_zero, List.set_cons_succ, List.toList_toArray]
          refine hK.out _ _ ⟨World.rangeAt_setCells_apart hHeld.1 _ _ _ (.inl (by omega)), World.rangeAt_setCells_apart hHeld.2 _ _ _ (.inl (by omega))⟩ (fun hHeld => ?_)
          clear hK K
          refine wpAnyH_ready (rs := [7]) (by kernel_rfl) (by simp) ?_
          refine AllReadyH.cons rfl (fun K hK => ?_) AllReadyH.nil
          rw [if_pos (by rfl)]
          refine wp_store_mid _ _ _ rfl (wr.heap.size + 1) 0 cs1.toArray rfl rfl (by rw [z1]; exact T3) (by rw [z1, ← l1]; exact hi1) (all_oneCell_toArray o1) ?_
          try simp only [Act.put, List.setIfInBounds_toArray, List.set_cons_zero, List.set_cons_succ, List.toList_toArray]
          refine hK.out _ _ ⟨World.rangeAt_setCells_apart hHeld.1 _ _ _ (.inl (by omega)), World.rangeAt_setCells_apart hHeld.2 _ _ _ (.inl (by omega))⟩ (fun hHeld => ?_)
          clear hK K
          refine wpAnyH_done (by kernel_rfl) ?_ _
          go_wp2_with fail
          go_meet
          have hb2 := blk_new (wr.alloc (.cells Try.zeroCells74 TPc (0, 0))) Try.zeroCells74 TPc
          have hb1 := (blk_new wr Try.zeroCells74 TPc).alloc (.cells Try.zeroCells74 TPc (0, 0))
          have hbd := below_drew (below_alloc (below_alloc (Below.refl wr.heap.size wr) (.cells Try.zeroCells74 TPc (0, 0))) (.cells Try.zeroCells74 TPc (0, 0)))
          rw [zc68] at hb1 hb2 hbd ⊢
          simp only [World.size_alloc] at hb1 hb2
          have hd1 := hb1.below (below_drew (Below.refl _ _))
          have hd2 := hb2.below (below_drew (Below.refl _ _))
          refine ⟨wr.heap.size, (wr.heap.size + 1), rfl, rfl, ?_, ?_, by show _ ≠ _; omega, by show _ ∧ _; omega, ?_⟩
          · exact (hd1.setCells_same cs0 (by simp [l0, pcells_length])).setCells_far' (by omega) cs1 0
          · exact (hd2.setCells_far' (by omega) cs0 0).setCells_same cs1 (by simp [l1, pcells_length])
          · exact below_setCells (by omega) cs1 0 _ (below_setCells (by omega) cs0 0 _ hbd)
        · go_simp
          refine hK.out _ _ ⟨World.rangeAt_alloc hHeld.1 _, World.rangeAt_alloc hHeld.2 _⟩ (fun hHeld => ?_)
          clear hK K
          try simp only [Act.put, List.setIfInBounds_toArray, List.set_cons_zero, List.set_cons_succ]
          refine wpAnyH_ready (rs := [4]) (by kernel_rfl) (by simp) ?_
          refine AllReadyH.cons rfl (fun K hK => ?_) AllReadyH.nil
          go_simp
          refine hK.out _ _ ⟨World.rangeAt_alloc hHeld.1 _, World.rangeAt_alloc hHeld.2 _⟩ (fun hHeld => ?_)
          clear hK K
          try simp only [Act.put, List.setIfInBounds_toArray, List.set_cons_zero, List.set_cons_succ]
          refine wpAnyH_ready (rs := [6]) (by kernel_rfl) (by simp) ?_
          refine AllReadyH.cons rfl (fun K hK => ?_) AllReadyH.nil
          rw [if_pos (by rfl)]
          refine wp_store_mid _ _ _ rfl (wr.heap.size + 1) 0 cs0.toArray rfl rfl (by rw [z0]; exact T1) (by rw [z0, ← l0]; exact hi0) (all_oneCell_toArray o0) ?_
          try simp only [Act.put, List.setIfInBounds_toArray, List.set_cons_zero, List.set_cons_succ, List.toList_toArray]
          refine hK.out _ _ ⟨World.rangeAt_setCells_apart hHeld.1 _ _ _ (.inl (by omega)), World.rangeAt_setCells_apart hHeld.2 _ _ _ (.inl (by omega))⟩ (fun hHeld => ?_)
          clear hK K
          refine wpAnyH_ready (rs := [7]) (by kernel_rfl) (by simp) ?_
          refine AllReadyH.cons rfl (fun K hK => ?_) AllReadyH.nil
          rw [if_pos (by rfl)]
          refine wp_store_mid _ _ _ rfl wr.heap.size 0 cs1.toArray rfl rfl (by rw [z1]; exact T2) (by rw [z1, ← l1]; exact hi1) (all_oneCell_toArray o1) ?_
          try simp only [Act.put, List.setIfInBounds_toArray, List.set_cons_zero, List.set_cons_succ, List.toList_toArray]
          refine hK.out _ _ ⟨World.rangeAt_setCells_apart hHeld.1 _ _ _ (.inl (by omega)), World.rangeAt_setCells_apart hHeld.2 _ _ _ (.inl (by omega))⟩ (fun hHeld => ?_)
          clear hK K
          refine wpAnyH_done (by kernel_rfl) ?_ _
          go_wp2_with fail
          go_meet
          have hb2 := blk_new (wr.alloc (.cells Try.zeroCells74 TPc (0, 0))) Try.zeroCells74 TPc
          have hb1 := (blk_new wr Try.zeroCells74 TPc).alloc (.cells Try.zeroCells74 TPc (0, 0))
          have hbd := below_drew (below_alloc (below_alloc (Below.refl wr.heap.size wr) (.cells Try.zeroCells74 TPc (0, 0))) (.cells Try.zeroCells74 TPc (0, 0)))
          rw [zc68] at hb1 hb2 hbd ⊢
          simp only [World.size_alloc] at hb1 hb2
          have hd1 := hb1.below (below_drew (Below.refl _ _))
          have hd2 := hb2.below (below_drew (Below.refl _ _))
          refine ⟨(wr.heap.size + 1), wr.heap.size, rfl, rfl, ?_, ?_, by show _ ≠ _; omega, by show _ ∧ _; omega, ?_⟩
          · exact (hd2.setCells_same cs0 (by simp [l0, pcells_length])).setCells_far' (by omega) cs1 0
          · exact (hd1.setCells_far' (by omega) cs0 0).setCells_same cs1 (by simp [l1, pcells_length])
          · exact below_setCells (by omega) cs1 0 _ (below_setCells (by omega) cs0 0 _ hbd)
      case rest =>
        obtain ⟨g8, g9, rfl, rfl, M8, M9, H89, HGE, HBC⟩ := hcut
        have N0 := Lib.hid (M0.out.below HBC.out)
        have N1 := Lib.hid (M1.out.below HBC.out)
        have HBw : Hid (Below w.heap.size w wc) := below_then HW.out HBC.out
        have HSw := Lib.hid (HS.out.below HBw.out)
        have E8 : Hid (cs0 = pcells (pcK ks t.data.toList ks.length 0)) := by rw [hcs0.out, hF0.out]; exact rfl
        have E9 : Hid (cs1 = pcells (pcK ks t.data.toList ks.length 1)) := by rw [hcs1.out, hF1.out]; exact rfl
        clear M0 M1 M2 r0 r1 T0 T1 T2 T3 z0 z1 hu hi0 hi1 o0 o1 l0 l1 hcs0 hcs1 hF0 hF1 HW HS HB HK HZ hl
        obtain ⟨wb, hwb⟩ : ∃ x, x = wc.alloc (.cells Try.zeroCells74 TPc (0, 0)) := ⟨_, rfl⟩
        have HBb : Hid (Below wc.heap.size wc wb) := by rw [hwb]; exact below_alloc (Below.refl _ _) _
        have M11 : Hid (Blk wb wc.heap.size (pcells (pcU (.mk k s ks) t.data.toList 0 0)).toArray TPc) := by
          rw [pcU_zero, hwb, ← zc68]
          exact blk_new wc _ _
        replace hwb := hwb.symm
        go_wp2_with fail
        clear hwb
        go_loopg [12] (t.size + 1) (fun n i wr => ∃ j : Nat, j + n = t.size + 1 ∧ i = .int .i64 j ∧ Hid (Blk wr wc.heap.size (pcells (pcU (.mk k s ks) t.data.toList j 0)).toArray TPc) ∧ Hid (Below wc.heap.size wc wr))
        case atStart => exact ⟨0, by omega, rfl, M11, HBb⟩
        case round =>
          clear M11 HBb
          obtain ⟨j, hj, rfl, M11, HBr⟩ := hrel
          by_cases hlt : j ≤ t.size
          · have i1 : (j : Int) ≤ (t.size : Int) := by omega
            go_wp2_with fail
            obtain ⟨gO, rfl⟩ : ∃ x, x = gk := ⟨_, rfl⟩
            go_loopg [13] (t.size + 1 - j) (fun n i wr => ∃ q : Nat, q + n = t.size + 1 - j ∧ i = .int .i64 q ∧ Hid (Blk wr wc.heap.size (pcells (pcU (.mk k s ks) t.data.toList j q)).toArray TPc) ∧ Hid (Below wc.heap.size wc wr))
            case atStart => exact ⟨0, by omega, rfl, M11, HBr⟩
            case round =>
              clear M11 HBr
              obtain ⟨q, hq, rfl, M11, HBr⟩ := hrel
              by_cases hqt : q + j ≤ t.size
              · have i2 : (q : Int) + (j : Int) ≤ (t.size : Int) := by omega
                have n0 : wr.cell? ⟨w.heap.size, 0, none⟩ = some (.int .i64 k) := by rw [(N0.out.below HBr.out).cell]; rfl
                go_upto_block 6 with fail
                go_cut [15] (fun s15 wx => s15 = .bool (pc (.mk k s ks) t.data.toList q (q + j)) ∧ Hid (Below wr.heap.size wr wx))
                case first =>
                  have HTL : t.data.toList.length = t.size := HT.out
                  have M8r := M8.out.below HBr.out
                  have M9r := M9.out.below HBr.out
                  rw [E8.out] at M8r
                  rw [E9.out] at M9r
                  have C8 : Hid (∀ x y, x < 13 → y < 13 → wr.cell? ⟨g8, x * 13 + y, none⟩ = some (.bool (pcK ks t.data.toList ks.length 0 x y))) := fun x y hx hy => M8r.prow.cell hx hy
                  have C9 : Hid (∀ x y, x < 13 → y < 13 → wr.cell? ⟨g9, x * 13 + y, none⟩ = some (.bool (pcK ks t.data.toList ks.length 1 x y))) := fun x y hx hy => M9r.prow.cell hx hy
                  have C11 : Hid (∀ x y, x < 13 → y < 13 → wr.cell? ⟨wc.heap.size, x * 13 + y, none⟩ = some (.bool (pcU (.mk k s ks) t.data.toList j q x y))) := fun x y hx hy => M11.out.prow.cell hx hy
                  have n1 : wr.cell? ⟨w.heap.size, 1, none⟩ = some (.slice A s.length c) := by rw [(N0.out.below HBr.out).cell]; rfl
                  have HSr := Lib.hid (HSw.out.below HBr.out)
                  replace HTL := Lib.hid HTL
                  clear M8r M9r M8 M9 E8 E9 N0 N1 M11 n0
                  rcases formed_shape HD.out with ⟨rfl | rfl, rfl⟩ | ⟨rfl | rfl, a, rfl, ha⟩ | ⟨rfl | rfl | rfl, a, b, rfl, ha, hb⟩
                  · by_cases h1 : j = 1
                    · subst h1
                      have i3 : (0 : Int) ≤ (q : Int) := by omega
                      have i4 : (q : Int) < (t.size : Int) := by omega
                      have hqs : q < t.size := by omega
                      have HH : Hid (setHas s (wrap64 (t[q].toNat : Int)) = pc (.mk 1 s []) t.data.toList q (q + 1)) := by
                        show _ = _
                        rw [Go.IntWalk.wrap64_in _ (by have := t[q].toNat_lt; omega), pc_set s [] t.data.toList (c := t[q]) (by rw [Array.getElem?_toList, Array.getElem?_eq_getElem hqs]; rfl)]
                      have N1 : ∀ x : BW wr, x.w1.cell? ⟨w.heap.size, 1, none⟩ = some (.slice A s.length c) := fun x => x.cell n1
                      go_wp2_with fail
                      clear n1
                      refine wp_region_bw (by kernel_rfl) (by kernel_rfl) ?_
                      repeat (go_big_quiet_step ((go_at_call 18; with_reducible exact Calls.bw (bv HH.out) (iSetHas_c _ _ _ _ _ (HSr.out.below (BW.up _))))))
                      refine wpQuiet_nil ?_
                      rintro w1 ⟨x1, y1⟩
                      have b1 : Below wr.heap.size wr w1 := y1 ▸ x1.up
                      clear y1 x1 N1
                      go_wp2_with fail
                      go_meet
                      exact ⟨rfl, b1⟩
                    · have d1 : ((j : Int) == 1) = false := by rw [beq_eq_false_iff_ne]; omega
                      have d1' : ((j : Int) = 1) = False := by simp; omega
                      have HH : Hid (pc (.mk 1 s []) t.data.toList q (q + j) = false) := pc_set_no _ _ _ (by rw [HTL.out]; omega) (by omega)
                      clear n1
                      go_wp2_with fail
                      refine wp_region_bw (by kernel_rfl) (by kernel_rfl) ?_
                      repeat (go_big_quiet_step ((fail)))
                      refine wpQuiet_nil ?_
                      rintro w1 ⟨x1, y1⟩
                      have b1 : Below wr.heap.size wr w1 := y1 ▸ x1.up
                      clear y1 x1
                      go_wp2_with fail
                      go_meet
                      exact ⟨congrArg Value.bool HH.out.symm, b1⟩
                  · clear n1
                    by_cases h0 : j = 0
                    · subst h0
                      go_wp2_with fail
                      go_meet
                      exact ⟨congrArg Value.bool (by rw [pc_empty _ _ _ (by rw [HTL.out]; omega)]; simp), Below.refl _ _⟩
                    · have h0' : (j : Int) ≠ 0 := by omega
                      go_wp2_with fail
                      go_meet
                      exact ⟨congrArg Value.bool (by rw [pc_empty _ _ _ (by rw [HTL.out]; omega)]; simp [h0]), Below.refl _ _⟩
                  · clear n1
                    by_cases h0 : j = 0
                    · have d1 : ((j : Int) == 0) = true := by rw [beq_iff_eq]; omega
                      replace h0 := Lib.hid h0
                      go_wp2_with fail
                      go_loopg [15, 17] (j) (fun n s15 i w2 => ∃ d : Nat, d + n = j ∧ i = .int .i64 ((q : Int) + (d : Int) + 1) ∧ s15 = .bool (starAcc s a t.data.toList q j d) ∧ w2 = wr)
                      case atStart => exact ⟨0, by omega, congrArg (Value.int .i64) (by simp), congrArg Value.bool (by simp [starAcc, h0.out]), rfl⟩
                      case round =>
                        obtain ⟨d, hdj, rfl, rfl, rfl⟩ := hrel
                        by_cases hdl : d < j
                        · have e1 : (q : Int) + (d : Int) + 1 ≤ (q : Int) + (j : Int) := by omega
                          have c8 := C8.out q (q + d + 1) (by omega) (by omega)
                          have c9 := C11.out (q + d + 1) (q + j) (by omega) (by omega)
                          rw [show pcK [a] t.data.toList [a].length 0 q (q + d + 1) = pc a t.data.toList q (q + d + 1) from pcF_eq _ _ (by omega) (by rw [HTL.out]; omega)] at c8
                          rw [pcU_eq _ _ (by omega) (by rw [HTL.out]; omega) (by omega)] at c9
                          cases hc : starAcc s a t.data.toList q j d with
                          | true =>
                            replace hc := Lib.hid hc
                            go_wp2_with fail
                            go_roundg (gk - 1)
                            case measure => omega
                            case rel => exact ⟨d + 1, by omega, congrArg (Value.int .i64) (by omega), congrArg Value.bool (by rw [starAcc_succ]; simp [hc.out]), rfl⟩
                          | false =>
                            replace hc := Lib.hid hc
                            cases hx : pc a t.data.toList q (q + d + 1) with
                            | false =>
                              rw [hx] at c8
                              replace hx := Lib.hid hx
                              go_wp2_with fail
                              go_roundg (gk - 1)
                              case measure => omega
                              case rel => exact ⟨d + 1, by omega, congrArg (Value.int .i64) (by omega), congrArg Value.bool (by rw [starAcc_succ]; simp [hc.out, hx.out]), rfl⟩
                            | true =>
                              rw [hx] at c8
                              replace hx := Lib.hid hx
                              cases hy : pc (.mk 5 s [a]) t.data.toList (q + d + 1) (q + j) with
                              | false =>
                                rw [hy] at c9
                                replace hy := Lib.hid hy
                                go_wp2_with fail
                                go_roundg (gk - 1)
                                case measure => omega
                                case rel => exact ⟨d + 1, by omega, congrArg (Value.int .i64) (by omega), congrArg Value.bool (by rw [starAcc_succ]; simp [hc.out, hx.out, hy.out]), rfl⟩
                              | true =>
                                rw [hy] at c9
                                replace hy := Lib.hid hy
                                go_wp2_with fail
                                go_roundg (gk - 1)
                                case measure => omega
                                case rel => exact ⟨d + 1, by omega, congrArg (Value.int .i64) (by omega), congrArg Value.bool (by rw [starAcc_succ]; simp [hc.out, hx.out, hy.out]), rfl⟩
                        · have e1 : (q : Int) + (j : Int) < (q : Int) + (d : Int) + 1 := by omega
                          go_wp2_with fail
                          go_meet
                          exact ⟨congrArg Value.bool (starAcc_done _ _ _ (by omega) (by rw [HTL.out]; omega)).symm, Below.refl _ _⟩
                    · have d1 : ((j : Int) == 0) = false := by rw [beq_eq_false_iff_ne]; omega
                      replace h0 := Lib.hid h0
                      go_wp2_with fail
                      go_loopg [15, 17] (j) (fun n s15 i w2 => ∃ d : Nat, d + n = j ∧ i = .int .i64 ((q : Int) + (d : Int) + 1) ∧ s15 = .bool (starAcc s a t.data.toList q j d) ∧ w2 = wr)
                      case atStart => exact ⟨0, by omega, congrArg (Value.int .i64) (by simp), congrArg Value.bool (by simp [starAcc, h0.out]), rfl⟩
                      case round =>
                        obtain ⟨d, hdj, rfl, rfl, rfl⟩ := hrel
                        by_cases hdl : d < j
                        · have e1 : (q : Int) + (d : Int) + 1 ≤ (q : Int) + (j : Int) := by omega
                          have c8 := C8.out q (q + d + 1) (by omega) (by omega)
                          have c9 := C11.out (q + d + 1) (q + j) (by omega) (by omega)
                          rw [show pcK [a] t.data.toList [a].length 0 q (q + d + 1) = pc a t.data.toList q (q + d + 1) from pcF_eq _ _ (by omega) (by rw [HTL.out]; omega)] at c8
                          rw [pcU_eq _ _ (by omega) (by rw [HTL.out]; omega) (by omega)] at c9
                          cases hc : starAcc s a t.data.toList q j d with
                          | true =>
                            replace hc := Lib.hid hc
                            go_wp2_with fail
                            go_roundg (gk - 1)
                            case measure => omega
                            case rel => exact ⟨d + 1, by omega, congrArg (Value.int .i64) (by omega), congrArg Value.bool (by rw [starAcc_succ]; simp [hc.out]), rfl⟩
                          | false =>
                            replace hc := Lib.hid hc
                            cases hx : pc a t.data.toList q (q + d + 1) with
                            | false =>
                              rw [hx] at c8
                              replace hx := Lib.hid hx
                              go_wp2_with fail
                              go_roundg (gk - 1)
                              case measure => omega
                              case rel => exact ⟨d + 1, by omega, congrArg (Value.int .i64) (by omega), congrArg Value.bool (by rw [starAcc_succ]; simp [hc.out, hx.out]), rfl⟩
                            | true =>
                              rw [hx] at c8
                              replace hx := Lib.hid hx
                              cases hy : pc (.mk 5 s [a]) t.data.toList (q + d + 1) (q + j) with
                              | false =>
                                rw [hy] at c9
                                replace hy := Lib.hid hy
                                go_wp2_with fail
                                go_roundg (gk - 1)
                                case measure => omega
                                case rel => exact ⟨d + 1, by omega, congrArg (Value.int .i64) (by omega), congrArg Value.bool (by rw [starAcc_succ]; simp [hc.out, hx.out, hy.out]), rfl⟩
                              | true =>
                                rw [hy] at c9
                                replace hy := Lib.hid hy
                                go_wp2_with fail
                                go_roundg (gk - 1)
                                case measure => omega
                                case rel => exact ⟨d + 1, by omega, congrArg (Value.int .i64) (by omega), congrArg Value.bool (by rw [starAcc_succ]; simp [hc.out, hx.out, hy.out]), rfl⟩
                        · have e1 : (q : Int) + (j : Int) < (q : Int) + (d : Int) + 1 := by omega
                          go_wp2_with fail
                          go_meet
                          exact ⟨congrArg Value.bool (starAcc_done _ _ _ (by omega) (by rw [HTL.out]; omega)).symm, Below.refl _ _⟩
                  · clear n1
                    have c8 := C8.out q (q + j) (by omega) (by omega)
                    rw [show pcK [a] t.data.toList [a].length 0 q (q + j) = pc a t.data.toList q (q + j) from pcF_eq _ _ (by omega) (by rw [HTL.out]; omega)] at c8
                    go_wp2_with fail
                    go_meet
                    exact ⟨congrArg Value.bool (by unfold pc; rw [lang7]), Below.refl _ _⟩
                  · clear n1
                    go_wp2_with fail
                    go_loopg [15, 16] (j + 1) (fun n s15 i w2 => ∃ d : Nat, d + n = j + 1 ∧ i = .int .i64 ((q : Int) + (d : Int)) ∧ s15 = .bool (catAcc a b t.data.toList q j d) ∧ w2 = wr)
                    case atStart => exact ⟨0, by omega, congrArg (Value.int .i64) (by simp), rfl, rfl⟩
                    case round =>
                      obtain ⟨d, hdj, rfl, rfl, rfl⟩ := hrel
                      by_cases hdl : d ≤ j
                      · have e1 : (q : Int) + (d : Int) ≤ (q : Int) + (j : Int) := by omega
                        have c8 := C8.out q (q + d) (by omega) (by omega)
                        have c9 := C9.out (q + d) (q + j) (by omega) (by omega)
                        rw [show pcK [a, b] t.data.toList [a, b].length 0 q (q + d) = pc a t.data.toList q (q + d) from pcF_eq _ _ (by omega) (by rw [HTL.out]; omega)] at c8
                        rw [show pcK [a, b] t.data.toList [a, b].length 1 (q + d) (q + j) = pc b t.data.toList (q + d) (q + j) from pcF_eq _ _ (by omega) (by rw [HTL.out]; omega)] at c9
                        cases hc : catAcc a b t.data.toList q j d with
                        | true =>
                          replace hc := Lib.hid hc
                          go_wp2_with fail
                          go_roundg (gk - 1)
                          case measure => omega
                          case rel => exact ⟨d + 1, by omega, congrArg (Value.int .i64) (by omega), congrArg Value.bool (by rw [catAcc_succ]; simp [hc.out]), rfl⟩
                        | false =>
                          replace hc := Lib.hid hc
                          cases hx : pc a t.data.toList q (q + d) with
                          | false =>
                            rw [hx] at c8
                            replace hx := Lib.hid hx
                            go_wp2_with fail
                            go_roundg (gk - 1)
                            case measure => omega
                            case rel => exact ⟨d + 1, by omega, congrArg (Value.int .i64) (by omega), congrArg Value.bool (by rw [catAcc_succ]; simp [hc.out, hx.out]), rfl⟩
                          | true =>
                            rw [hx] at c8
                            replace hx := Lib.hid hx
                            cases hy : pc b t.data.toList (q + d) (q + j) with
                            | false =>
                              rw [hy] at c9
                              replace hy := Lib.hid hy
                              go_wp2_with fail
                              go_roundg (gk - 1)
                              case measure => omega
                              case rel => exact ⟨d + 1, by omega, congrArg (Value.int .i64) (by omega), congrArg Value.bool (by rw [catAcc_succ]; simp [hc.out, hx.out, hy.out]), rfl⟩
                            | true =>
                              rw [hy] at c9
                              replace hy := Lib.hid hy
                              go_wp2_with fail
                              go_roundg (gk - 1)
                              case measure => omega
                              case rel => exact ⟨d + 1, by omega, congrArg (Value.int .i64) (by omega), congrArg Value.bool (by rw [catAcc_succ]; simp [hc.out, hx.out, hy.out]), rfl⟩
                      · have e1 : (q : Int) + (j : Int) < (q : Int) + (d : Int) := by omega
                        go_wp2_with fail
                        go_meet
                        exact ⟨congrArg Value.bool (catAcc_done _ _ _ _ (by omega) (by rw [HTL.out]; omega)).symm, Below.refl _ _⟩
                  · clear n1
                    have c8 := C8.out q (q + j) (by omega) (by omega)
                    have c9 := C9.out q (q + j) (by omega) (by omega)
                    rw [show pcK [a, b] t.data.toList [a, b].length 0 q (q + j) = pc a t.data.toList q (q + j) from pcF_eq _ _ (by omega) (by rw [HTL.out]; omega)] at c8
                    rw [show pcK [a, b] t.data.toList [a, b].length 1 q (q + j) = pc b t.data.toList q (q + j) from pcF_eq _ _ (by omega) (by rw [HTL.out]; omega)] at c9
                    cases hA : pc a t.data.toList q (q + j) with
                    | true =>
                      rw [hA] at c8
                      replace hA := Lib.hid hA
                      go_wp2_with fail
                      go_meet
                      exact ⟨congrArg Value.bool (by have := hA.out; unfold pc at this ⊢; rw [lang4, this, Bool.true_or]), Below.refl _ _⟩
                    | false =>
                      rw [hA] at c8
                      replace hA := Lib.hid hA
                      go_wp2_with fail
                      go_meet
                      exact ⟨congrArg Value.bool (by have := hA.out; unfold pc at this ⊢; rw [lang4, this, Bool.false_or]), Below.refl _ _⟩
                  · clear n1
                    have c8 := C8.out q (q + j) (by omega) (by omega)
                    have c9 := C9.out q (q + j) (by omega) (by omega)
                    rw [show pcK [a, b] t.data.toList [a, b].length 0 q (q + j) = pc a t.data.toList q (q + j) from pcF_eq _ _ (by omega) (by rw [HTL.out]; omega)] at c8
                    rw [show pcK [a, b] t.data.toList [a, b].length 1 q (q + j) = pc b t.data.toList q (q + j) from pcF_eq _ _ (by omega) (by rw [HTL.out]; omega)] at c9
                    cases hA : pc a t.data.toList q (q + j) with
                    | true =>
                      rw [hA] at c8
                      replace hA := Lib.hid hA
                      go_wp2_with fail
                      go_meet
                      exact ⟨congrArg Value.bool (by have := hA.out; unfold pc at this ⊢; rw [lang6, this, Bool.true_and]), Below.refl _ _⟩
                    | false =>
                      rw [hA] at c8
                      replace hA := Lib.hid hA
                      go_wp2_with fail
                      go_meet
                      exact ⟨congrArg Value.bool (by have := hA.out; unfold pc at this ⊢; rw [lang6, this, Bool.false_and]), Below.refl _ _⟩
                case rest =>
                  obtain ⟨rfl, HX⟩ := hcut
                  have m11 := M11.out.below HX.out
                  have q1 := m11.prow.cell (i := q) (j := q + j) (by omega) (by omega)
                  have q2 := m11.prow.free (i := q) (j := q + j) (by omega) (by omega)
                  clear m11 n0
                  go_wp2_with fail
                  go_roundg (gk - 1)
                  case measure => omega
                  case rel =>
                    have hs := PRow.set (M11.out.below HX.out) (i := q) (j := q + j) (by omega) (by omega) (pc (.mk k s ks) t.data.toList q (q + j))
                    rw [show (fun i' j' => if i' = q ∧ j' = q + j then pc (.mk k s ks) t.data.toList q (q + j) else pcU (.mk k s ks) t.data.toList j q i' j') = pcU (.mk k s ks) t.data.toList j (q + 1) from pcU_set _ _ (by rw [HT.out]; omega)] at hs
                    exact ⟨q + 1, by omega, by go_num, hs, below_set (below_then HBr.out HX.out) (Nat.le_refl _) _⟩
              · have i2 : (t.size : Int) < (q : Int) + (j : Int) := by omega
                go_wp2_with fail
                go_roundg (gO - 1)
                case measure => omega
                case rel =>
                  rw [show pcU (.mk k s ks) t.data.toList j q = pcU (.mk k s ks) t.data.toList (j + 1) 0 from pcU_row _ _ (by rw [HT.out]; omega)] at M11
                  exact ⟨j + 1, by omega, by go_num, M11, HBr⟩
          · have i1 : (t.size : Int) < (j : Int) := by omega
            have HF := Lib.hid (pcU_done (.mk k s ks) t.data.toList (n := j) (by rw [HT.out]; omega))
            rw [HF.out] at M11
            have H1 := Lib.hid (N1.out.below HBr.out)
            obtain ⟨cs, hcs⟩ : ∃ x, x = pcells (pcF (.mk k s ks) t.data.toList) := ⟨_, rfl⟩
            have hl : cs.length = 169 := by rw [hcs, pcells_length]
            have hs : (Try.prog.info? TPc).map (·.size) = some cs.length := by rw [hl]; exact sizePc
            have hone : ∀ v ∈ cs, v.oneCell' = true := by rw [hcs]; exact pcells_one _
            obtain ⟨cz, hcz⟩ : ∃ x, x = (pcells fun _ _ => false).toArray := ⟨_, rfl⟩
            have hfit : 0 + cs.length ≤ cz.size := by rw [hcz, List.size_toArray, pcells_length, hl]; omega
            rw [← hcs] at M11
            rw [← hcz] at H1
            replace hcs := Lib.hid hcs
            replace hcz := Lib.hid hcz
            replace hl := Lib.hid hl
            replace hs := Lib.hid hs
            replace hone := Lib.hid hone
            replace hfit := Lib.hid hfit
            go_upto_region 41 with fail
            refine wp_region_lit ?_
            refine ev_load rfl TPc (.tmp 11) rfl wc.heap.size rfl cs TPc M11.out _ Try.underlying74 rfl hs.out ?_
            refine ev_store rfl rfl TPc (.tmp 4) (.tmp 162) rfl (w.heap.size + 1) 0 rfl cs rfl _ TPc H1.out hs.out hfit.out hone.out ?_
            intro w5 hX5 hg5
            have HX5 := Lib.hid hX5
            have HG5 := Lib.hid hg5
            clear hX5 hg5
            go_wp2_with fail
            have hc5 := HX5.out
            have he : cz.toList.take 0 ++ cs ++ cz.toList.drop (0 + cs.length) = cs := by
              rw [List.take_zero, List.nil_append, List.drop_of_length_le (by rw [hcz.out, hl.out]; simp [pcells_length]), List.append_nil]
            rw [he] at hc5
            refine bodyPost_ret (results_cell_row rfl _ _ (w.heap.size + 1) TPc _ (0, 0) _ rfl hc5.eq Try.underlying74 rfl (by rw [sizePc, List.size_toArray, hl.out])) rfl ?_
            exact ⟨by rw [hcs.out], (below_then HBw.out HBr.out).grown HG5.out (Nat.le_trans HBw.out.size HBr.out.size) (by rintro k' e; injection e; omega)⟩


end Go.Proofs.Ytplhbjpkkhhilaa
