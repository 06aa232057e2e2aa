/- Sets as texts: plain; SetText of the reference. -/
import Derived.Test.YtlchipjckgaclaaDoorTx
import Derived.Test.YtlchipjckgaclaaDoorOwn
import Derived.Test.YtlchipjckgaclaaDoorBw
import Derived.Deep.CutBlock
import Derived.Sort.Grow
import Derived.BigQuiet
import Derived.StillTailTactics
namespace Go.Proofs.YtlchipjckgaclaaDoor
set_option linter.unusedSimpArgs false
set_option linter.unusedVariables false
set_option maxRecDepth 100000
open Go.RowKit

def spanTxt (x : Sp) : List UInt8 := Lib.itoa x.lo ++ (if x.hi = x.lo then [] else 45 :: Lib.itoa x.hi)
def accTxt (xs : List Sp) : List UInt8 := Lib.join (xs.map spanTxt) [44]
def setTxt (xs : List Sp) : List UInt8 := if xs.length = 0 then [110, 111] else accTxt xs
def sp64 (xs : List Sp) : Prop := ∀ x ∈ xs, in64 x.lo ∧ in64 x.hi
theorem acc_snoc (xs : List Sp) (x : Sp) : accTxt (xs ++ [x]) = (if xs.length = 0 then [] else accTxt xs ++ [44]) ++ spanTxt x := by
  unfold accTxt
  cases xs with
  | nil => simp [Lib.join_one]
  | cons y ys =>
    have e : Lib.join ((y :: ys).map spanTxt) [44] = spanTxt y ++ Lib.joinTail [44] (ys.map spanTxt) := by rw [List.map_cons, Lib.join_cons]
    rw [if_neg (by simp), e, List.cons_append, List.map_cons, Lib.join_cons, List.map_append]
    simp [Lib.joinTail]
theorem itoa_pos (n : Int) : 1 ≤ (Lib.itoa n).length := by
  unfold Lib.itoa
  split
  · simp
  · rw [Lib.decDigits_length, Lib.nDigits]
    split <;> omega
theorem span_len {x : Sp} (h : in64 x.lo ∧ in64 x.hi) : 1 ≤ (spanTxt x).length ∧ (spanTxt x).length ≤ 43 := by
  have h1 := Lib.itoa_length_le x.lo h.1.1 h.1.2
  have h2 := Lib.itoa_length_le x.hi h.2.1 h.2.2
  have h3 := itoa_pos x.lo
  unfold spanTxt
  rw [List.length_append]
  split
  · simp; omega
  · rw [List.length_cons]; omega
theorem take_snoc {xs : List Sp} {k : Nat} {x : Sp} (h : xs[k]? = some x) : xs.take (k + 1) = xs.take k ++ [x] := by rw [List.take_add_one, h]; rfl
theorem acc_len (xs : List Sp) (h : sp64 xs) : ∀ k, k ≤ xs.length → (accTxt (xs.take k)).length ≤ 44 * k
  | 0, _ => by simp [accTxt, Lib.join_nil]
  | k + 1, hk => by
    have h1 := acc_len xs h k (by omega)
    have hx : xs[k]? = some xs[k] := List.getElem?_eq_getElem (by omega)
    have h2 := (span_len (h _ (List.mem_of_getElem? hx))).2
    rw [take_snoc hx, acc_snoc, List.length_append]
    split
    · simp; omega
    · rw [List.length_append, List.length_singleton]; omega
theorem acc_pos {xs : List Sp} (h : sp64 xs) (hn : xs.length ≠ 0) : 1 ≤ (accTxt xs).length := by
  rcases List.eq_nil_or_concat xs with rfl | ⟨ys, y, rfl⟩
  · simp at hn
  · rw [List.concat_eq_append] at h ⊢
    have := (span_len (h y (by simp))).1
    rw [acc_snoc, List.length_append]
    omega
theorem sp64_take {xs : List Sp} (h : sp64 xs) (k : Nat) : sp64 (xs.take k) := fun x hx => h x (List.mem_of_mem_take hx)
theorem below_grow (w : World) (k : Nat) (os : Array Obj) : Below w.heap.size w (Go.Sort.grow (w.drewN k) os) := by
  have h := below_drewN (Below.refl w.heap.size w) k
  refine ⟨h.os, h.tape, h.output, Nat.le_trans h.size (by simp [Go.Sort.grow]), fun b hb => ?_⟩
  rw [← h.block b hb]
  show ((w.drewN k).heap ++ os)[b]? = _
  exact Array.getElem?_append_left (Nat.lt_of_lt_of_le hb h.size)
theorem str_empty (l : List UInt8) : (str l).toList.isEmpty = l.isEmpty := by
  rw [ByteArray.toList_eq]
  rfl
theorem str_app (l : List UInt8) (b : UInt8) : str l ++ (⟨#[b]⟩ : ByteArray) = str (l ++ [b]) := str_append l [b]

set_option maxRecDepth 100000 in
set_option maxHeartbeats 2000000 in
theorem sSetText_c (A : Option Addr) (c : Nat) (xs : List Sp) (w : World) {lo : Nat} (h : Sps w lo A c xs) (h64 : sp64 xs) (hn : xs.length ≤ 1048576) :
    Calls Tryd.prog 10 #[.slice A xs.length c] w fun e w' => e = .returned (.string (str (setTxt xs))) ∧ Below w.heap.size w w' := by
  have H := Lib.hid h
  have H64 := Lib.hid h64
  clear h h64
  go_enter Tryd.func10, Tryd.ntmps10
  go_wp2_with fail
  go_loopg [3, 4] xs.length (fun n v3 v4 wr => ∃ k : Nat, k + n = xs.length ∧ v4 = .int .i64 k ∧ v3 = .string (str (accTxt (xs.take k))) ∧ Hid (Below w.heap.size w wr))
  case atStart => exact ⟨0, by omega, rfl, rfl, Below.refl _ _⟩
  case round =>
    obtain ⟨k, hk, rfl, rfl, HB⟩ := hrel
    by_cases hlt : k < xs.length
    · obtain ⟨a, x, rfl, HX, HD, h0, h1⟩ := (H.out.below HB.out).at_ k hlt
      have i0 : (0 : Int) ≤ (k : Int) := by omega
      have i1 : (k : Int) < (xs.length : Int) := by omega
      have hx := H64.out x (List.mem_of_getElem? HX.out)
      have hal := acc_len xs H64.out k (by omega)
      have hs1 := str_size (accTxt (xs.take k))
      have HT := Lib.hid (take_snoc HX.out)
      have HTK : Hid ((xs.take k).length = k) := by show _ = _; rw [List.length_take]; omega
      have hi0 := Lib.itoa_length_le x.lo hx.1.1 hx.1.2
      have hi1 := Lib.itoa_length_le x.hi hx.2.1 hx.2.2
      have hz0 := str_size (Lib.itoa x.lo)
      have hz1 := str_size (Lib.itoa x.hi)
      obtain ⟨acc, hacc⟩ : ∃ acc, acc = accTxt (xs.take k) := ⟨_, rfl⟩
      rw [← hacc] at hs1 hal
      have HACC := Lib.hid hacc
      clear hacc
      rw [← HACC.out]
      by_cases hk0 : k = 0
      · have g0 : decide ((0 : Int) < (k : Int)) = false := by simp; omega
        have g1 : (k : Int) ≤ 0 := by omega
        have g2 : decide (0 < k) = false := by simp; omega
        have EP : Hid (accTxt (xs.take (k + 1)) = acc ++ spanTxt x) := by
          show _ = _
          rw [HT.out, acc_snoc, HTK.out, if_pos hk0, HACC.out, hk0]
          rfl
        clear hk0
        go_wp2_with fail
        obtain ⟨pre, hpre⟩ : ∃ p, p = acc := ⟨_, rfl⟩
        have hpl : pre.length ≤ 44 * k + 1 := by rw [hpre]; omega
        rw [← hpre] at EP hs1 ⊢
        clear hpre g0 g1 g2
        refine (sDec_c x.lo wr hx.1).mono ?_
        rintro e w1 ⟨rfl, b1⟩
        have B1 := Lib.hid (below_then HB.out b1)
        have c0 := (b1.cell (World.block_lt_of_cell? wr _ h0)).trans h0
        have c1 := (b1.cell (World.block_lt_of_cell? wr _ h1)).trans h1
        clear b1 h0 h1
        by_cases hne : x.hi = x.lo
        · have d0 : decide (¬ x.hi = x.lo) = false := by simp [hne]
          have d1 : (x.hi != x.lo) = false := by simp [hne]
          have N0 : ∀ z : BW w1, z.w1.cell? (a.add (k * 2)) = some (.int .i64 x.lo) := fun z => z.cell c0
          have N1 : ∀ z : BW w1, z.w1.cell? ⟨(a.add (k * 2)).block, (a.add (k * 2)).off + 1, none⟩ = some (.int .i64 x.hi) := fun z => z.cell c1
          have HNE := Lib.hid hne
          clear c0 c1 hne
          go_wp2_with fail
          refine wp_region_bw (by kernel_rfl) (by kernel_rfl) ?_
          repeat (go_big_quiet_step ((fail)))
          refine wpQuiet_nil ?_
          rintro w2 ⟨x1, y1⟩
          have b2 : Below w1.heap.size w1 w2 := y1 ▸ x1.up
          clear y1 x1 N0 N1
          go_wp2_with fail
          go_roundg (gk - 1)
          case measure => omega
          case rel =>
            refine ⟨k + 1, by omega, by go_num, ?_, below_then B1.out b2⟩
            rw [EP.out, str_append]
            unfold spanTxt
            rw [if_pos HNE.out, List.append_nil]
        · have d0 : decide (¬ x.hi = x.lo) = true := by simp [hne]
          have d1 : (x.hi != x.lo) = true := by simp [hne]
          have N0 : ∀ z : BW w1, z.w1.cell? (a.add (k * 2)) = some (.int .i64 x.lo) := fun z => z.cell c0
          have N1 : ∀ z : BW w1, z.w1.cell? ⟨(a.add (k * 2)).block, (a.add (k * 2)).off + 1, none⟩ = some (.int .i64 x.hi) := fun z => z.cell c1
          have C1 := Lib.hid c1
          have HNE := Lib.hid hne
          clear c0 c1
          go_wp2_with fail
          refine wp_region_bw (by kernel_rfl) (by kernel_rfl) ?_
          repeat (go_big_quiet_step ((fail)))
          refine wpQuiet_nil ?_
          rintro w2 ⟨x1, y1⟩
          have b2 : Below w1.heap.size w1 w2 := y1 ▸ x1.up
          clear y1 x1 N0 N1
          have c1 := (b2.cell (World.block_lt_of_cell? w1 _ C1.out)).trans C1.out
          have B2 := Lib.hid (below_then B1.out b2)
          clear b2
          go_upto_region 9 with fail
          rw [str_append pre (Lib.itoa x.lo)]
          obtain ⟨m, hm⟩ : ∃ m, m = pre ++ Lib.itoa x.lo := ⟨_, rfl⟩
          have hml : m.length ≤ 44 * k + 30 := by rw [hm, List.length_append]; omega
          have HM := Lib.hid hm
          rw [← hm]
          have hs2 := str_size m
          clear hm
          go_wp2_with fail
          rw [str_app m 45]
          obtain ⟨m2, hm2⟩ : ∃ m2, m2 = m ++ [45] := ⟨_, rfl⟩
          have hml2 : m2.length ≤ 44 * k + 31 := by rw [hm2, List.length_append]; simp; omega
          have HM2 := Lib.hid hm2
          rw [← hm2]
          have hs3 := str_size m2
          clear hm2 c1 hne
          refine (sDec_c x.hi w2 hx.2).mono ?_
          rintro e w3 ⟨rfl, b3⟩
          go_wp2_with fail
          go_roundg (gk - 1)
          case measure => omega
          case rel =>
            refine ⟨k + 1, by omega, by go_num, ?_, below_then B2.out b3⟩
            rw [EP.out, str_append, HM2.out, HM.out]
            unfold spanTxt
            rw [if_neg HNE.out]
            simp
      · have g0 : decide ((0 : Int) < (k : Int)) = true := by simp; omega
        have g1 : (0 : Int) < (k : Int) := by omega
        have g2 : decide (0 < k) = true := by simp; omega
        have g3 : 0 < k := by omega
        have EP : Hid (accTxt (xs.take (k + 1)) = (acc ++ [44]) ++ spanTxt x) := by
          show _ = _
          rw [HT.out, acc_snoc, HTK.out, if_neg hk0, HACC.out]
        clear hk0
        go_wp2_with fail
        rw [str_app acc 44]
        obtain ⟨pre, hpre⟩ : ∃ p, p = acc ++ [44] := ⟨_, rfl⟩
        have hpl : pre.length ≤ 44 * k + 1 := by rw [hpre, List.length_append]; simp; omega
        rw [← hpre] at EP ⊢
        have hs1 := str_size pre
        clear hpre g0 g1 g2 g3
        refine (sDec_c x.lo wr hx.1).mono ?_
        rintro e w1 ⟨rfl, b1⟩
        have B1 := Lib.hid (below_then HB.out b1)
        have c0 := (b1.cell (World.block_lt_of_cell? wr _ h0)).trans h0
        have c1 := (b1.cell (World.block_lt_of_cell? wr _ h1)).trans h1
        clear b1 h0 h1
        by_cases hne : x.hi = x.lo
        · have d0 : decide (¬ x.hi = x.lo) = false := by simp [hne]
          have d1 : (x.hi != x.lo) = false := by simp [hne]
          have N0 : ∀ z : BW w1, z.w1.cell? (a.add (k * 2)) = some (.int .i64 x.lo) := fun z => z.cell c0
          have N1 : ∀ z : BW w1, z.w1.cell? ⟨(a.add (k * 2)).block, (a.add (k * 2)).off + 1, none⟩ = some (.int .i64 x.hi) := fun z => z.cell c1
          have HNE := Lib.hid hne
          clear c0 c1 hne
          go_wp2_with fail
          refine wp_region_bw (by kernel_rfl) (by kernel_rfl) ?_
          repeat (go_big_quiet_step ((fail)))
          refine wpQuiet_nil ?_
          rintro w2 ⟨x1, y1⟩
          have b2 : Below w1.heap.size w1 w2 := y1 ▸ x1.up
          clear y1 x1 N0 N1
          go_wp2_with fail
          go_roundg (gk - 1)
          case measure => omega
          case rel =>
            refine ⟨k + 1, by omega, by go_num, ?_, below_then B1.out b2⟩
            rw [EP.out, str_append]
            unfold spanTxt
            rw [if_pos HNE.out, List.append_nil]
        · have d0 : decide (¬ x.hi = x.lo) = true := by simp [hne]
          have d1 : (x.hi != x.lo) = true := by simp [hne]
          have N0 : ∀ z : BW w1, z.w1.cell? (a.add (k * 2)) = some (.int .i64 x.lo) := fun z => z.cell c0
          have N1 : ∀ z : BW w1, z.w1.cell? ⟨(a.add (k * 2)).block, (a.add (k * 2)).off + 1, none⟩ = some (.int .i64 x.hi) := fun z => z.cell c1
          have C1 := Lib.hid c1
          have HNE := Lib.hid hne
          clear c0 c1
          go_wp2_with fail
          refine wp_region_bw (by kernel_rfl) (by kernel_rfl) ?_
          repeat (go_big_quiet_step ((fail)))
          refine wpQuiet_nil ?_
          rintro w2 ⟨x1, y1⟩
          have b2 : Below w1.heap.size w1 w2 := y1 ▸ x1.up
          clear y1 x1 N0 N1
          have c1 := (b2.cell (World.block_lt_of_cell? w1 _ C1.out)).trans C1.out
          have B2 := Lib.hid (below_then B1.out b2)
          clear b2
          go_upto_region 9 with fail
          rw [str_append pre (Lib.itoa x.lo)]
          obtain ⟨m, hm⟩ : ∃ m, m = pre ++ Lib.itoa x.lo := ⟨_, rfl⟩
          have hml : m.length ≤ 44 * k + 30 := by rw [hm, List.length_append]; omega
          have HM := Lib.hid hm
          rw [← hm]
          have hs2 := str_size m
          clear hm
          go_wp2_with fail
          rw [str_app m 45]
          obtain ⟨m2, hm2⟩ : ∃ m2, m2 = m ++ [45] := ⟨_, rfl⟩
          have hml2 : m2.length ≤ 44 * k + 31 := by rw [hm2, List.length_append]; simp; omega
          have HM2 := Lib.hid hm2
          rw [← hm2]
          have hs3 := str_size m2
          clear hm2 c1 hne
          refine (sDec_c x.hi w2 hx.2).mono ?_
          rintro e w3 ⟨rfl, b3⟩
          go_wp2_with fail
          go_roundg (gk - 1)
          case measure => omega
          case rel =>
            refine ⟨k + 1, by omega, by go_num, ?_, below_then B2.out b3⟩
            rw [EP.out, str_append, HM2.out, HM.out]
            unfold spanTxt
            rw [if_neg HNE.out]
            simp
    · have hkl : k = xs.length := by omega
      subst hkl
      rw [List.take_length]
      by_cases hx0 : xs.length = 0
      · have e0 : accTxt xs = [] := by rw [List.length_eq_zero_iff.1 hx0]; rfl
        have E : Hid (setTxt xs = [110, 111]) := by show _ = _; rw [setTxt, if_pos hx0]
        have g0 := str_empty []
        rw [e0]
        clear hx0 e0
        go_wp2_with fail
        go_ret
        exact ⟨by rw [E.out]; rfl, HB.out⟩
      · have hp := acc_pos H64.out hx0
        have g0 := str_empty (accTxt xs)
        have g1 : (accTxt xs).isEmpty = false := by
          cases hq : accTxt xs with
          | nil => rw [hq] at hp; simp at hp
          | cons b l => rfl
        rw [g1] at g0
        have E : Hid (setTxt xs = accTxt xs) := by show _ = _; rw [setTxt, if_neg hx0]
        clear hx0 hp g1
        go_wp2_with fail
        go_ret
        exact ⟨by rw [E.out]; rfl, HB.out⟩

end Go.Proofs.YtlchipjckgaclaaDoor
