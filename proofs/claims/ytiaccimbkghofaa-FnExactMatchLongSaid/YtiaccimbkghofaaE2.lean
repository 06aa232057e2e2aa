/- l3Star: any number of pieces that are like a tree. -/
import Derived.Test.YtiaccimbkghofaaE1
import Derived.Test.YtiaccimbkghofaaW3
import Derived.Deep.RegionHeld3
import Derived.StillTailTactics
import Derived.RegionTactic
import Derived.BigRegion
namespace Go.Proofs.Ytiaccimbkghofaa
set_option linter.unusedSimpArgs false
set_option linter.unusedVariables false
open Go.RowKit

abbrev TBo : Nat := 4
theorem infoBo : (Try.prog.info? TBo).map (fun i => (i.zero, i.size, i.bytes)) = some (some (.bool false), 1, 1) := by kernel_rfl
def bcells (f : Nat → Bool) (n : Nat) : List Value := (List.range n).map fun i => .bool (f i)
theorem bcells_length (f : Nat → Bool) (n : Nat) : (bcells f n).length = n := by simp [bcells]
theorem bcells_get (f : Nat → Bool) {n i : Nat} (h : i < n) : (bcells f n)[i]? = some (.bool (f i)) := by simp [bcells, h]
theorem bcells_set (f : Nat → Bool) (n k : Nat) (b : Bool) : (bcells f n).set k (.bool b) = bcells (fun i => if i = k then b else f i) n := by
  apply List.ext_getElem?
  intro j
  rw [List.getElem?_set]
  by_cases hj : j < n
  · rw [bcells_get _ hj, bcells_get _ hj, bcells_length]
    by_cases e : k = j
    · subst e; simp [hj]
    · rw [if_neg e, if_neg (Ne.symm e)]
  · rw [List.getElem?_eq_none (by rw [bcells_length]; omega), List.getElem?_eq_none (by rw [bcells_length]; omega), bcells_length]
    split
    · rw [if_neg (by omega)]
    · rfl
structure BRow (w : World) (g n : Nat) (f : Nat → Bool) : Prop where
  blk : Blk w g (bcells f n).toArray TBo
theorem BRow.below {w w' : World} {g n : Nat} {f : Nat → Bool} (h : BRow w g n f) (hb : Below w.heap.size w w') : BRow w' g n f := ⟨h.blk.below hb⟩
theorem BRow.cell {w : World} {g n : Nat} {f : Nat → Bool} (h : BRow w g n f) {i : Nat} (hi : i < n) : w.cell? ⟨g, i, none⟩ = some (.bool (f i)) := by
  rw [h.blk.cell]; simpa using bcells_get f hi
theorem BRow.free {w : World} {g n : Nat} {f : Nat → Bool} (h : BRow w g n f) (i : Nat) : w.frozen? ⟨g, i, none⟩ = false := h.blk.free i
theorem BRow.set {w : World} {g n : Nat} {f : Nat → Bool} (h : BRow w g n f) (k : Nat) (b : Bool) : BRow (w.setCell ⟨g, k, none⟩ (.bool b)) g n (fun i => if i = k then b else f i) := by
  have := h.blk.set k (.bool b)
  rw [List.setIfInBounds_toArray, bcells_set] at this
  exact ⟨this⟩
theorem brow_made {w : World} {base g n : Nat} (h : w.ownsRow base TBo 1 (.slice (some ⟨g, 0, none⟩) n n) n (madeCells (Value.bool false).cells (n * 1)).toList) : BRow w g n fun _ => false := by
  obtain ⟨cur, hb, hs, _, _, _, ht⟩ := own_blk h
  have e : cur = (bcells (fun _ => false) n).toArray := by
    apply Array.toList_inj.1
    rw [List.take_of_length_le (by rw [Array.length_toList, hs]; exact Nat.le_refl _)] at ht
    rw [ht]
    apply List.ext_getElem?
    intro j
    by_cases hj : j < n
    · show _ = (bcells (fun _ => false) n)[j]?
      rw [bcells_get _ hj]
      simp [madeCells, Value.cells, hj, Nat.mod_one]
    · rw [List.getElem?_eq_none (by simp [madeCells]; omega), List.getElem?_eq_none (by simp [bcells_length]; omega)]
  exact ⟨e ▸ hb⟩

theorem ext_mid (t : ByteArray) (i k : Nat) : (t.extract i k).data.toList = (t.data.toList.take k).drop i := by rw [Go.Lib.extract_data, List.drop_take]
theorem star_row {L : Txt → Bool} {t : Txt} {k : Nat} (hk : k ≤ t.length) : starB L (t.take k) = (decide (k = 0) || (List.range k).any fun i => starB L (t.take i) && L ((t.take k).drop i)) := by
  rw [starB_last]
  have e : (t.take k).length = k := by rw [List.length_take]; omega
  rw [e]
  congr 1
  · cases k with
    | zero => simp
    | succ k => cases t with
      | nil => simp at hk
      | cons x xs => rfl
  · rw [Bool.eq_iff_iff, List.any_eq_true, List.any_eq_true]
    refine exists_congr fun i => and_congr_right fun hi => ?_
    rw [List.take_take, Nat.min_eq_left (by simp at hi; omega)]

set_option maxRecDepth 100000 in
set_option maxHeartbeats 8000000 in
theorem l3Star_of (a : Rex) (iha : LangOk a) (d : Nat) (t : ByteArray) (v1 v2 : Value) (w : World) (lo : Nat) (hfa : formed d a = true) (ht : t.size ≤ 1000) (h : RexV w lo a (.int .i64 a.kind) v1 v2) :
    Calls Try.prog 96 #[.agg #[.int .i64 a.kind, v1, v2], .string t] w fun e w' => e = .returned (.bool (starB (lang a) t.data.toList)) ∧ Below w.heap.size w w' := by
  obtain ⟨A, c, K, ck', _, rfl, rfl, _, _⟩ := h.parts
  obtain ⟨wa, hwa⟩ : ∃ x, x = w.alloc (.cells #[.int .i64 a.kind, .slice A a.set.length c, .slice K a.kids.length ck'] 31) := ⟨_, rfl⟩
  have hb : Below w.heap.size w wa := by rw [hwa]; exact below_alloc (Below.refl _ _) _
  have m0 : Blk wa w.heap.size #[.int .i64 a.kind, .slice A a.set.length c, .slice K a.kids.length ck'] 31 := by rw [hwa]; exact blk_new _ _ _
  replace hwa := hwa.symm
  have HB := Lib.hid hb
  have M0 := Lib.hid m0
  have HA := Lib.hid (h.under hb)
  have HFA := Lib.hid hfa
  have HT := Lib.hid (tl_len t)
  clear hb m0 h hfa
  obtain ⟨i0, hi, hz0, hz1, hz2⟩ := info_parts infoBo
  go_enter Try.func96, Try.ntmps96
  go_upto_region 1 with fail
  clear hwa
  go_wp2_with (at_make; refine wpList_make_full _ rfl _ _ 90 rfl wa.heap.size TBo i0 (.bool false) 1 Try.underlying90 hi hz0 hz1 .i64 .i64 _ _ (t.size + 1) rfl rfl (by go_num) (by go_num) (by rw [hz2]; omega) (by unfold maxLen; omega) (Nat.le_refl _) ?_; intro w1 hown hgrow; have hR := brow_made hown; have c0 := hR.cell (i := 0) (by omega); have f0 := hR.free 0; have HR := Lib.hid hR; have B1 : Hid (Below wa.heap.size wa w1) := (Below.refl _ wa).grown hgrow (Nat.le_refl _) (fun k hk => by cases hk); clear hown hgrow hR)
  obtain ⟨g, hg⟩ : ∃ g, g = wa.heap.size := ⟨_, rfl⟩
  rw [← hg] at HR ⊢
  have hgl : wa.heap.size ≤ g := by rw [hg]; exact Nat.le_refl _
  have HG0 : Hid (w.heap.size < g) := by have := M0.out.lt; rw [hg]; exact this
  have HR0 := Lib.hid (HR.out.set 0 true)
  have B2 := Lib.hid (below_set B1.out (p := ⟨g, 0, none⟩) hgl (.bool true))
  clear c0 f0 hg hi hz0 hz1 hz2
  clear HR B1
  go_loopg [6] (t.size) (fun n x wr => ∃ k : Nat, k + n = t.size + 1 ∧ x = .int .i64 k ∧ 1 ≤ k ∧ ∃ f : Nat → Bool, Hid (BRow wr g (t.size + 1) f) ∧ Hid (∀ j, j < k → f j = starB (lang a) (t.data.toList.take j)) ∧ Hid (∀ j, k ≤ j → j ≤ t.size → f j = false) ∧ Hid (Below wa.heap.size wa wr))
  case atStart =>
    refine ⟨1, by omega, rfl, Nat.le_refl _, _, HR0, fun j hj => ?_, fun j h1 h2 => ?_, B2⟩
    · obtain rfl : j = 0 := by omega
      rw [if_pos rfl, List.take_zero]
      rfl
    · rw [if_neg (by omega)]
  case round =>
    clear HR0 B2
    obtain ⟨k, hk, rfl, hk1, f0, HR, HF0, HZ0, HW⟩ := hrel
    by_cases hlt : k ≤ t.size
    · obtain ⟨m, rfl⟩ : ∃ m, gk = m + 1 := ⟨gk - 1, by omega⟩
      obtain ⟨wo, rfl⟩ : ∃ wo : World, wo = wr := ⟨_, rfl⟩
      have HSR : Hid (starB (lang a) (t.data.toList.take k) = (List.range k).any fun i => starB (lang a) (t.data.toList.take i) && lang a ((t.data.toList.take k).drop i)) := by
        show _ = _
        rw [star_row (by rw [HT.out]; exact hlt), decide_eq_false (by omega), Bool.false_or]
      go_wp2
      go_loopg [7] (k) (fun n x wr => ∃ i : Nat, i + n = k ∧ x = .int .i64 i ∧ ∃ f : Nat → Bool, Hid (BRow wr g (t.size + 1) f) ∧ Hid (∀ j, j < k → f j = starB (lang a) (t.data.toList.take j)) ∧ Hid (f k = (List.range i).any fun i => starB (lang a) (t.data.toList.take i) && lang a ((t.data.toList.take k).drop i)) ∧ Hid (∀ j, k < j → j ≤ t.size → f j = false) ∧ Hid (Below wa.heap.size wa wr))
      case atStart => exact ⟨0, by omega, rfl, f0, HR, HF0, by show _ = _; rw [HZ0.out k (Nat.le_refl _) hlt]; simp, fun j h1 h2 => HZ0.out j (by omega) h2, HW⟩
      case round =>
        clear HR HF0 HZ0 HW
        obtain ⟨i, hi, rfl, f, HR, HF, HK, HZ, HW⟩ := hrel
        have ck := HR.out.cell (i := k) (by omega)
        have fk := HR.out.free k
        have i0 : (0 : Int) ≤ (i : Int) := by omega
        have i1 : (k : Int) ≤ (t.size : Int) := by omega
        have i2 : (0 : Int) ≤ (k : Int) := by omega
        by_cases hik : i < k
        · have hti : decide ((i : Int) < (k : Int)) = true := decide_eq_true (by omega)
          have hti' : decide (i < k) = true := decide_eq_true hik
          by_cases hfk : f k = true
          · rw [hfk] at ck
            have HKF := Lib.hid hfk
            clear hfk
            go_wp2
            go_roundg m
            case rel =>
              refine ⟨k + 1, by omega, by go_num, by omega, f, HR, fun j hj => ?_, fun j h1 h2 => HZ.out j (by omega) h2, HW⟩
              by_cases e : j = k
              · subst e
                rw [HKF.out, HSR.out]
                have h1 := HK.out
                rw [HKF.out] at h1
                have h2 := List.any_eq_true.1 h1.symm
                obtain ⟨x, hx, hy⟩ := h2
                exact (List.any_eq_true.2 ⟨x, by simp at hx ⊢; omega, hy⟩).symm
              · exact HF.out j (by omega)
            case measure => omega
          · have HKF : Hid (f k = false) := by show _ = _; simpa using hfk
            rw [HKF.out] at ck
            have ci := HR.out.cell (i := i) (by omega)
            have n0 : wr.cell? ⟨w.heap.size, 0, none⟩ = some (.int .i64 a.kind) := by rw [(M0.out.below HW.out).cell]; rfl
            have n1 : wr.cell? ⟨w.heap.size, 1, none⟩ = some (.slice A a.set.length c) := by rw [(M0.out.below HW.out).cell]; rfl
            have n2 : wr.cell? ⟨w.heap.size, 2, none⟩ = some (.slice K a.kids.length ck') := by rw [(M0.out.below HW.out).cell]; rfl
            have i3 : (i : Int) ≤ (k : Int) := by omega
            have i4 : (i : Int) < (t.size : Int) + 1 := by omega
            have i5 : (k : Int) < (t.size : Int) + 1 := by omega
            have ES := ext_size t i k
            have EM := Lib.hid (ext_mid t i k)
            clear hfk
            by_cases hfi : f i = true
            · rw [hfi] at ci
              have HFI := Lib.hid hfi
              have HSI := Lib.hid ((HF.out i hik).symm.trans hfi)
              clear hfi
              obtain ⟨bb, hbb⟩ : ∃ bb, bb = lang a ((t.data.toList.take k).drop i) := ⟨_, rfl⟩
              have GA : Hid (lang a (t.extract i k).data.toList = bb) := by show _ = _; rw [EM.out, hbb]
              have HBB := Lib.hid hbb
              clear hbb
              go_wp2
              have HS : Hid (∀ w', Below wr.heap.size wr w' → w'.cell? ⟨g, i, none⟩ = some (.bool true) ∧ w'.cell? ⟨w.heap.size, 0, none⟩ = some (.int .i64 a.kind) ∧ w'.cell? ⟨w.heap.size, 1, none⟩ = some (.slice A a.set.length c) ∧ w'.cell? ⟨w.heap.size, 2, none⟩ = some (.slice K a.kids.length ck')) := fun w' hb =>
                ⟨by rw [(HR.out.below hb).cell (by omega), HFI.out], by rw [(M0.out.below (below_then HW.out hb)).cell]; rfl, by rw [(M0.out.below (below_then HW.out hb)).cell]; rfl, by rw [(M0.out.below (below_then HW.out hb)).cell]; rfl⟩
              have HS2 : Hid (∀ w' b, Below wr.heap.size wr w' → (w'.setCell ⟨g, k, none⟩ (.bool b)).cell? ⟨g, i, none⟩ = some (.bool true) ∧ (w'.setCell ⟨g, k, none⟩ (.bool b)).cell? ⟨w.heap.size, 0, none⟩ = some (.int .i64 a.kind) ∧ (w'.setCell ⟨g, k, none⟩ (.bool b)).cell? ⟨w.heap.size, 1, none⟩ = some (.slice A a.set.length c) ∧ (w'.setCell ⟨g, k, none⟩ (.bool b)).cell? ⟨w.heap.size, 2, none⟩ = some (.slice K a.kids.length ck')) := fun w' b hb =>
                ⟨by rw [((HR.out.below hb).set k b).cell (by omega)]; simp [show i ≠ k by omega, HFI.out], by rw [((M0.out.below (below_then HW.out hb)).far (by show w.heap.size ≠ g; have := HG0.out; omega) _).cell]; rfl, by rw [((M0.out.below (below_then HW.out hb)).far (by show w.heap.size ≠ g; have := HG0.out; omega) _).cell]; rfl, by rw [((M0.out.below (below_then HW.out hb)).far (by show w.heap.size ≠ g; have := HG0.out; omega) _).cell]; rfl⟩
              go_region_held3 (fun w' => w'.cell? ⟨g, i, none⟩ = some (.bool true) ∧ w'.cell? ⟨w.heap.size, 0, none⟩ = some (.int .i64 a.kind) ∧ w'.cell? ⟨w.heap.size, 1, none⟩ = some (.slice A a.set.length c) ∧ w'.cell? ⟨w.heap.size, 2, none⟩ = some (.slice K a.kids.length ck'))
                (first | exact HS.out _ (Below.refl _ _) | exact HS.out _ (below_drew (Below.refl _ _)) | exact HS.out _ BD.out | exact HS2.out _ _ BD.out)
                ((go_at_call 76; refine (iha d _ _ _ _ lo HFA.out (by omega) ((HA.out.under HW.out).under (below_drew (Below.refl _ _)))).mono ?_; rintro e wD ⟨rfl, b3⟩; have BD : Hid (Below wr.heap.size wr wD) := below_then (below_drew (Below.refl _ _)) b3; clear b3; rw [GA.out]; have ck2 := (HR.out.below BD.out).cell (i := k) (by omega); rw [HKF.out] at ck2; have fk2 := (HR.out.below BD.out).free k))
              all_goals
                clear ck fk ci n0 n1 n2 i0 i1 i2 i3 i4 i5 ES ck2 fk2
                go_wp2
                go_roundg (k - i - 1)
                case rel => exact ⟨i + 1, by omega, by go_num, _, (HR.out.below BD.out).set k bb, fun j hj => by simp only [if_neg (show j ≠ k by omega)]; exact HF.out j hj, by show (if k = k then _ else _) = _; rw [if_pos rfl, any_range_succ, ← HK.out, HKF.out, HSI.out, HBB.out]; rfl, fun j hj hj2 => by simp only [if_neg (show j ≠ k by omega)]; exact HZ.out j hj hj2, below_set (below_then HW.out BD.out) hgl _⟩
                case measure => omega
            · have HFI : Hid (f i = false) := by show _ = _; simpa using hfi
              rw [HFI.out] at ci
              have HSI := Lib.hid ((HF.out i hik).symm.trans HFI.out)
              clear hfi ES
              go_wp2
              go_region
              go_wp2
              go_roundg (k - i - 1)
              case rel => exact ⟨i + 1, by omega, by go_num, _, (HR.out.below (below_drew (Below.refl _ _))).set k false, fun j hj => by simp only [if_neg (show j ≠ k by omega)]; exact HF.out j hj, by show (if k = k then _ else _) = _; rw [if_pos rfl, any_range_succ, ← HK.out, HKF.out, HSI.out]; rfl, fun j hj hj2 => by simp only [if_neg (show j ≠ k by omega)]; exact HZ.out j hj hj2, below_set (below_drew HW.out) hgl _⟩
              case measure => omega
        · have hti : decide ((i : Int) < (k : Int)) = false := decide_eq_false (by omega)
          have hti' : decide (i < k) = false := decide_eq_false hik
          go_wp2
          go_roundg m
          case rel =>
            refine ⟨k + 1, by omega, by go_num, by omega, f, HR, fun j hj => ?_, fun j h1 h2 => HZ.out j (by omega) h2, HW⟩
            by_cases e : j = k
            · subst e
              obtain rfl : i = j := by omega
              rw [HK.out, HSR.out]
            · exact HF.out j (by omega)
          case measure => omega
    · obtain rfl : k = t.size + 1 := by omega
      have cn := HR.out.cell (i := t.size) (by omega)
      have EN : Hid (f0 t.size = starB (lang a) t.data.toList) := by
        show _ = _
        rw [HF0.out t.size (by omega), List.take_of_length_le (by rw [HT.out]; exact Nat.le_refl _)]
      rw [EN.out] at cn
      go_wp2
      go_ret
      exact ⟨rfl, below_then HB.out HW.out⟩

end Go.Proofs.Ytiaccimbkghofaa
