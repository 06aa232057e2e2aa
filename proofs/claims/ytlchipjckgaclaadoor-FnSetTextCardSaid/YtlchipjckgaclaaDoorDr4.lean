/- What draws a text of a set: DrawSetRead. -/
import Derived.Test.YtlchipjckgaclaaDoorDr3
import Derived.Test.YtlchipjckgaclaaDoorDt5
import Derived.Test.YtlchipjckgaclaaDoorG7
namespace Go.Proofs.YtlchipjckgaclaaDoor
set_option linter.unusedSimpArgs false
set_option linter.unusedVariables false
set_option maxRecDepth 100000
open Go.RowKit

def SIX : List ByteArray := [⟨#[]⟩, ⟨#[48]⟩, ⟨#[45]⟩, ⟨#[44]⟩, ⟨#[32]⟩, ⟨#[110, 111]⟩]
theorem six_len {z : ByteArray} (h : z ∈ SIX) : z.size ≤ 2 := by
  unfold SIX at h
  simp at h
  rcases h with rfl | rfl | rfl | rfl | rfl | rfl <;> decide
theorem setTxt_pos (xs : List Sp) : 0 < (setTxt xs).length := by
  unfold setTxt
  split
  · decide
  · rename_i h
    cases xs with
    | nil => exact absurd rfl h
    | cons x xs =>
      unfold accTxt
      rw [List.map_cons, Lib.join_cons, List.length_append]
      have : 0 < (spanTxt x).length := by
        unfold spanTxt
        rw [List.length_append]
        have := itoa_pos x.lo
        omega
      omega
set_option maxRecDepth 100000 in
set_option maxHeartbeats 4000000 in
theorem drawSetRead_c (A : Option Addr) (c : Nat) (bs : List Int) (w : World) (h : Bys w 0 A c bs) :
    Calls Tryd.prog 34 #[.slice A bs.length c] w fun e w' => ∃ t, e = .returned (.string t) ∧ t.size ≤ 1048576 ∧ Below w.heap.size w w' := by
  go_enter Tryd.func34, Tryd.ntmps34
  go_wp2_with fail
  refine (open_c _ _ _ _ h).mono ?_
  rintro e w1 ⟨g, rfl, HR, hg, b1⟩
  go_wp2_with fail
  refine (l1Bent_r g 0 _ HR (by omega)).mono ?_
  rintro e w2 ⟨xs, v, q, rfl, o, ⟨b, cap, rfl⟩, hl, HR2, hq, hG⟩
  have HT := Lib.hid (b1.grown hG b1.size (fun k hk => by injection hk with hk; omega))
  have h300 := hl.len
  clear hG b1 HR h
  go_wp2_with fail
  refine (sSetText_c _ cap xs w2 o.row hl.sp64 (by omega)).mono ?_
  rintro e w3 ⟨rfl, b3⟩
  have HR3 := Lib.hid (HR2.below b3)
  replace HT := Lib.hid (below_then HT.out b3)
  obtain ⟨T, hT⟩ : ∃ T, T = str (setTxt xs) := ⟨_, rfl⟩
  have hTz : T.size ≤ 100000 := by
    rw [hT, str_size]
    unfold setTxt
    split
    · simp
    · have := acc_len xs hl.sp64 xs.length (Nat.le_refl _)
      rw [List.take_length] at this
      omega
  have hTp : 0 < T.size := by rw [hT, str_size]; exact setTxt_pos xs
  rw [← hT]
  clear hT b3 o hl HR2
  go_wp2_with fail
  refine (pick_c g q 2 _ HR3.out (by omega) (by omega) (by omega)).mono ?_
  rintro e w4 ⟨r, rfl, r0, r1, HR4, HG4⟩
  replace HT := Lib.hid (HT.out.grown HG4 HT.out.size (fun k hk => by injection hk with hk; omega))
  replace HR4 := Lib.hid HR4
  clear HG4 HR3
  by_cases c0 : r = 0
  · subst c0
    go_wp2_with fail
    go_ret
    exact ⟨T, rfl, by omega, HT.out⟩
  have d0 : (r == 0) = false := by simp [c0]
  go_wp2_with fail
  refine (pick_c g (q + 1) (T.size : Int) _ HR4.out (by omega) (by omega) (by omega)).mono ?_
  rintro e w5 ⟨k, rfl, k0, k1, HR5, HG5⟩
  replace HT := Lib.hid (HT.out.grown HG5 HT.out.size (fun k hk => by injection hk with hk; omega))
  replace HR5 := Lib.hid HR5
  obtain ⟨kn, rfl⟩ := Int.eq_ofNat_of_zero_le k0
  have hkn : kn < T.size := by omega
  clear HG5 HR4 d0 c0 r0 r1
  obtain ⟨wi, hwi⟩ : ∃ x, x = w5.alloc (.cells #[.string ⟨#[]⟩, .string ⟨#[48]⟩, .string ⟨#[45]⟩, .string ⟨#[44]⟩, .string ⟨#[32]⟩, .string ⟨#[110, 111]⟩] TStr) := ⟨_, rfl⟩
  have hbi : Below w5.heap.size w5 wi := by rw [hwi]; exact below_alloc (Below.refl _ _) _
  have hci : CellsAt wi ⟨w5.heap.size, 0, none⟩ (SIX.map fun z => .string z) := by rw [hwi]; exact new_cells w5 (SIX.map fun z => Value.string z) TStr
  have hil : w5.heap.size < wi.heap.size := by rw [hwi]; simp
  have hg5 := HR5.out.lt
  have HOF : Hid (Calls Tryd.prog 70 #[.pointer (some ⟨g, 0, none⟩), .slice (some ⟨w5.heap.size, 0, none⟩) 6 6] wi.drew fun e w' => ∃ v, e = .returned v ∧ ∃ z, v = .string z ∧ z.size ≤ 2 ∧ Rd w' g (q + 3) ∧ Below w.heap.size w w') := by
    show Calls _ _ _ _ _
    refine (of_c g (q + 1 + 1) w5.heap.size 6 SIX wi.drew (HR5.out.below (below_drew hbi)) (CellsAt.moved hci ((below_drew (Below.refl wi.heap.size wi)).block w5.heap.size hil)) (by omega) (Nat.lt_of_lt_of_le hil (below_drew (Below.refl wi.heap.size wi)).size) (by decide) (by decide) (by omega)).mono fun e wz ⟨z, h1, h2, h3, h4⟩ => ⟨_, h1, z, rfl, six_len h2, h3, ?_⟩
    exact (below_drew (below_then HT.out hbi)).grown h4 (below_drew (below_then HT.out hbi)).size (fun k hk => by injection hk with hk; omega)
  have HPK : Hid (∀ wx, Rd wx g (q + 3) → Below w.heap.size w wx → Calls Tryd.prog 69 #[.pointer (some ⟨g, 0, none⟩), .int .i64 2] wx fun e w' => ∃ v, e = .returned v ∧ ∃ rn : Nat, v = .int .i64 rn ∧ rn < 2 ∧ Below w.heap.size w w') := fun wx hr hb => by
    refine (pick_c g (q + 3) 2 wx hr (by omega) (by omega) (by omega)).mono fun e wz ⟨z, h1, h2, h3, _, h4⟩ => ⟨_, h1, z.toNat, ?_, by omega, hb.grown h4 hb.size (fun k hk => by injection hk with hk; omega)⟩
    rw [show ((z.toNat : Nat) : Int) = z by omega]
  replace hwi := hwi.symm
  clear hbi hci
  have j0 : (0 : Int) ≤ (kn : Int) := by omega
  have j1 : (kn : Int) ≤ (T.size : Int) := by omega
  have x1 : (T.extract 0 kn).size ≤ 100000 := by rw [ByteArray.size_extract]; omega
  go_wp2_with fail
  go_region_law (first
    | (refine step_call (by rfl) 70 _ _ (by rfl) _ Tryd.func70 (by kernel_rfl) (by kernel_rfl) #[.pointer (some ⟨g, 0, none⟩), .slice (some ⟨w5.heap.size, 0, none⟩) 6 6] (by rfl) HOF.out ?_; rintro _ w6 ⟨z, rfl, hz, hR6, hT6⟩; have HR6 := Lib.hid hR6; have HT6 := Lib.hid hT6; have x2 : ¬ 9223372036854775807 < min kn T.size + z.size := (by omega); have x3 : (T.extract 0 kn ++ z).size ≤ 100010 := (by rw [ByteArray.size_append]; omega); clear hR6 hT6)
    | (refine step_call (by rfl) 69 _ _ (by rfl) _ Tryd.func69 (by kernel_rfl) (by kernel_rfl) #[.pointer (some ⟨g, 0, none⟩), .int .i64 2] (by rfl) (HPK.out w6 HR6.out HT6.out) ?_; rintro _ w7 ⟨rn, rfl, hrn, hT7⟩; have HT7 := Lib.hid hT7; clear hT7; have j2 : (0 : Int) ≤ (kn : Int) + (rn : Int) := (by omega); have j3 : (kn : Int) + (rn : Int) ≤ (T.size : Int) := (by omega); have j4 : kn + rn ≤ T.size := (by omega); have y1 : IntKind.i64.wrap ((kn : Int) + (rn : Int)) = (kn : Int) + (rn : Int) := IntWalk.i64_in _ (by omega); have y2 : ((kn : Int) + (rn : Int)).toNat = kn + rn := (by omega); have x4 : (T.extract (kn + rn) T.size).size ≤ 100000 := (by rw [ByteArray.size_extract]; omega); have x5 : ¬ 9223372036854775807 < min kn T.size + z.size + (T.size - (kn + rn)) := (by omega); have x6 : (T.extract 0 kn ++ z ++ T.extract (kn + rn) T.size).size ≤ 1048576 := (by rw [ByteArray.size_append]; omega); have X6 := Lib.hid x6; clear x6))
  all_goals
    go_wp2_with fail
    go_ret
    exact ⟨_, rfl, X6.out, HT7.out⟩

end Go.Proofs.YtlchipjckgaclaaDoor
