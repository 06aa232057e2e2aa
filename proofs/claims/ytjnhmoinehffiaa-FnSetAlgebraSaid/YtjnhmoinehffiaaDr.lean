/- What draws a set: l1Set. -/
import Derived.Test.YtjnhmoinehffiaaRd
import Derived.Test.YtjnhmoinehffiaaW10
namespace Go.Proofs.Ytjnhmoinehffiaa
set_option linter.unusedSimpArgs false
set_option linter.unusedVariables false
open Go.RowKit

theorem ints_new (w : World) (zs : List Int) (t : TypeId) : CellsAt (w.alloc (.cells (zs.map fun z => Value.int .i64 z).toArray t)) ⟨w.heap.size, 0, none⟩ (zs.map fun z => .int .i64 z) := new_cells w _ t
def L9 : List Int := [0, 48, 97, 97, 98, 99, 120, 254, 255]
def L7 : List Int := [0, 0, 1, 2, 9, 25, 200]

theorem grown_fresh {w w1 : World} {row : Option Nat} (h : w.grownBy w1 row) {b : Nat} (hb : w.heap.size ≤ b) (o : Nat) (u : Value) : w.grownBy (w1.setCell ⟨b, o, none⟩ u) row :=
  ⟨h.os, h.tape, h.output, by rw [World.size_setCell]; exact h.size, fun k hk hne => (Below.heap_setCell w1 ⟨b, o, none⟩ u k (by show k ≠ b; omega)).trans (h.block k hk hne)⟩

set_option maxRecDepth 100000 in
set_option maxHeartbeats 2000000 in
theorem l1Set_c (g p : Nat) (w : World) (h : Rd w g p) (hp : p ≤ 900000) :
    Calls Try.prog 44 #[.pointer (some ⟨g, 0, none⟩)] w fun e w' => ∃ f v q, e = .returned v ∧ OwnSp w' w.heap.size v (spansOf f) ∧ (∃ k, k < 256 ∧ f k = true) ∧ Rd w' g q ∧ q ≤ p + 10 ∧ w.grownBy w' (some g) := by
  obtain ⟨i0, hi, hz0, hz1, hz2⟩ := info_parts infoBool
  have hgw := h.lt
  go_enter Try.func44, Try.ntmps44
  go_wp2_with (at_make; refine wpList_make_full _ rfl _ _ 53 rfl w.heap.size TB i0 (.bool false) 1 Try.underlying53 hi hz0 hz1 .i64 .i64 _ _ 256 rfl rfl rfl rfl (by rw [hz2]; omega) (by unfold maxLen; omega) (Nat.le_refl _) ?_; intro w1 hown hgrow; have HX1 := Lib.hid (own_bits hown); have HR1 := Lib.hid (h.grown hgrow (fun k hk => by cases hk)); have HB1 := Lib.hid ((Below.refl _ w).grown hgrow (Nat.le_refl _) (fun k hk => by cases hk)); clear hown hgrow hi hz0 hz1 hz2 h; skip)
  refine (pick_c g p 3 _ HR1.out (by omega) (by omega) (by omega)).mono ?_
  rintro e w2 ⟨r, rfl, r0, r1, HR, HG⟩
  have HX := Lib.hid (HX1.out.grown HG (fun k hk => by injection hk with hk; omega))
  replace HR := Lib.hid HR
  replace HG := Lib.hid (grown_then (grown_below HB1.out) HG)
  obtain ⟨m, rfl⟩ := Int.eq_ofNat_of_zero_le r0
  clear HX1 HR1 HB1
  go_wp2
  go_loopg [4] (m + 1) (fun n i wr => i = .int .i64 n ∧ Hid (n ≤ m + 1) ∧ ∃ (f : Nat → Bool) (q : Nat), Hid (Blk wr w.heap.size (bitCells f).toArray TB) ∧ Hid (Rd wr g q) ∧ Hid (q + 2 * n ≤ p + 7) ∧ Hid (n = m + 1 ∨ ∃ k, k < 256 ∧ f k = true) ∧ Hid (w.grownBy wr (some g)))
  case atStart => exact ⟨by go_num, Nat.le_refl _, _, p + 1, HX, HR, by show _ ≤ _; omega, .inl rfl, HG⟩
  case round =>
    clear HX HR HG
    obtain ⟨rfl, hn, f, q, HX, HR, HQ, HE, HG⟩ := hrel
    by_cases hpos : 0 < gk
    · obtain ⟨gn, rfl⟩ : ∃ x, gk = x + 1 := ⟨gk - 1, by omega⟩
      have hgk : gn + 1 ≤ 3 := by have := hn.out; omega
      have hq0 : q ≤ 900010 := by have := HQ.out; omega
      have hl9 : L9.length = 9 := rfl
      go_wp2_with fail
      refine (num_c g q wr.heap.size 9 L9 0 255 _ (HR.out.below (below_alloc (Below.refl _ _) _)) (ints_new wr L9 _) (by have := HR.out.lt; omega) (by simp) (by decide) (by decide) (by decide) (by omega)).mono ?_
      rintro e w3 ⟨a, rfl, a0, a1, HR3, HG3⟩
      have HX3 := Lib.hid ((HX.out.alloc _).grown HG3 (fun k hk => by injection hk with hk; omega))
      have HT3 := Lib.hid (grown_then HG.out (grown_then (grown_below (below_alloc (Below.refl _ _) _)) HG3))
      replace HR3 := Lib.hid HR3
      clear HX HR HG HG3
      go_wp2_with fail
      refine (num_c g (q + 1) w3.heap.size 7 L7 0 200 _ (HR3.out.below (below_alloc (Below.refl _ _) _)) (ints_new w3 L7 _) (by have := HR3.out.lt; omega) (by simp) (by decide) (by decide) (by decide) (by omega)).mono ?_
      rintro e w4 ⟨r2, rfl, b0, b1, HR4, HG4⟩
      have HX4 := Lib.hid ((HX3.out.alloc _).grown HG4 (fun k hk => by injection hk with hk; omega))
      have HT4 := Lib.hid (grown_then HT3.out (grown_then (grown_below (below_alloc (Below.refl _ _) _)) HG4))
      replace HR4 := Lib.hid HR4
      clear HX3 HR3 HT3 HG4
      go_wp2_with fail
      refine (min_c _ _ _).mono ?_
      rintro e w5 ⟨rfl, rfl⟩
      obtain ⟨b, hb⟩ : ∃ b, b = (if (255 : Int) < a + r2 then 255 else a + r2) := ⟨_, rfl⟩
      rw [← hb]
      have hab : a ≤ b ∧ b ≤ 255 := by rw [hb]; split <;> omega
      clear hb
      obtain ⟨an, rfl⟩ := Int.eq_ofNat_of_zero_le a0
      obtain ⟨bn, rfl⟩ := Int.eq_ofNat_of_zero_le (show 0 ≤ b by omega)
      have hab1 : an ≤ bn := by omega
      have hab2 : bn ≤ 255 := by omega
      clear hab a0 a1 b0 b1
      go_wp2
      go_loopg [7] (bn + 1 - an) (fun n i wr => ∃ kk : Nat, i = .int .i64 kk ∧ kk + n = bn + 1 ∧ ∃ (f : Nat → Bool), Hid (Blk wr w.heap.size (bitCells f).toArray TB) ∧ Hid (Rd wr g (q + 2)) ∧ Hid (kk = an ∨ ∃ k, k < 256 ∧ f k = true) ∧ Hid (w.grownBy wr (some g)))
      case atStart => exact ⟨an, rfl, by omega, _, HX4, HR4, .inl rfl, HT4⟩
      case round =>
        clear HX4 HR4 HT4
        obtain ⟨kk, rfl, hkk, f', HX, HR, HE', HG⟩ := hrel
        by_cases hk : kk ≤ bn
        · have c0 := bitr_cell HX.out kk (by omega)
          have f0 := HX.out.free kk
          go_wp2
          go_roundg (gk - 1)
          case rel => exact ⟨kk + 1, by go_num, by omega, _, bitr_set HX.out kk _, HR.out.grown (grown_set (grown_refl _ _) _ _) (fun k hk => by injection hk with hk; omega), .inr ⟨kk, by omega, by simp⟩, grown_fresh HG.out (Nat.le_refl _) _ _⟩
          case measure => omega
        · go_wp2
          go_roundg gn
          case rel => exact ⟨by go_num, by have := hn.out; show _ ≤ _; omega, f', q + 2, HX, HR, by have := HQ.out; show _ ≤ _; omega, .inr (HE'.out.resolve_left (by omega)), HG⟩
          case measure => omega
    · go_wp2_with fail
      refine (sl1Of_c f _ _ HX.out).mono ?_
      rintro e w9 ⟨v9, rfl, o9, b9⟩
      go_wp2
      go_ret
      exact ⟨f, v9, q, rfl, o9.lower HG.out.size, HE.out.resolve_left (by omega), HR.out.below b9, by have := HQ.out; omega, grown_then HG.out (grown_below b9)⟩

end Go.Proofs.Ytjnhmoinehffiaa
