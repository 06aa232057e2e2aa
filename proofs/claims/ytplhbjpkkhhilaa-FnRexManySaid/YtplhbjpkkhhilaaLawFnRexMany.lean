/- The law FnRexMany: sizes add up. -/
import Derived.Test.YtplhbjpkkhhilaaG10
import Derived.Test.YtplhbjpkkhhilaaG12
import Derived.Test.YtplhbjpkkhhilaaG3
import Derived.Test.YtplhbjpkkhhilaaG2
import Derived.BigQuiet
namespace Go.Proofs.Ytplhbjpkkhhilaa
set_option linter.unusedSimpArgs false
set_option linter.unusedVariables false
open Go.RowKit

theorem rexMany_pos {r : Rex} (h : rexOk r = true) : 1 ≤ rexMany r ∧ rexMany r ≤ 24 := by
  have h2 := h
  rw [rexOk, Bool.and_eq_true, decide_eq_true_eq] at h2
  rw [rexMany_ok h]
  obtain ⟨k, s, ks⟩ := r
  have := h2.2
  rw [Rex.many] at this ⊢
  omega
theorem rexMany_le (r : Rex) : 0 ≤ rexMany r ∧ rexMany r ≤ 24 := by
  by_cases h : rexOk r = true
  · have := rexMany_pos h; omega
  · rw [rexMany_no (by simpa using h)]; omega
theorem rexMany_one {k : Int} {r : Rex} (h : rexOk (.mk k [] [r]) = true) : rexMany (.mk k [] [r]) = rexMany r + 1 := by
  rw [rexMany_ok h, rexMany_ok (rexOk_kid h (by simp))]
  simp [Rex.many, manyL]; omega
theorem rexMany_two {k : Int} {r s : Rex} (h : rexOk (.mk k [] [r, s]) = true) : rexMany (.mk k [] [r, s]) = rexMany r + rexMany s + 1 := by
  rw [rexMany_ok h, rexMany_ok (rexOk_kid h (by simp : r ∈ [r, s])), rexMany_ok (rexOk_kid h (by simp : s ∈ [r, s]))]
  simp [Rex.many, manyL]; omega
set_option maxRecDepth 100000 in
set_option maxHeartbeats 4000000 in
theorem lawFnRexMany_c (A0 : Option Addr) (c0 : Nat) (bs0 : List Int) (w : World) (h0 : Bys w 0 A0 c0 bs0) :
    Calls Try.prog 4 #[.slice A0 bs0.length c0] w fun e w' => e = .returned (.bool true) ∧ Below w.heap.size w w' := by
  have hl0 := h0.len
  unfold maxN at hl0
  go_enter Try.func4, Try.ntmps4
  by_cases hb0 : (1048576 : Int) < bs0.length
  · go_wp2
    go_ret
    exact ⟨rfl, Below.refl _ _⟩
  clear hl0
  go_wp2_with fail
  refine (drawRR_c _ _ _ _ h0).mono ?_
  rintro e w1 ⟨r, A, c, K, ck, s, B, d, M, dm, rfl, hv, hv2, hs, hs2, b1⟩
  clear hb0 h0
  go_wp2_with fail
  obtain ⟨w2, hw2⟩ : ∃ x, x = (w1.alloc (.cells #[.int .i64 r.kind, .slice A r.set.length c, .slice K r.kids.length ck] TRx)).alloc (.cells #[.int .i64 s.kind, .slice B s.set.length d, .slice M s.kids.length dm] TRx) := ⟨_, rfl⟩
  have bb : Below w1.heap.size w1 w2 := by rw [hw2]; exact below_alloc (below_alloc (Below.refl _ _) _) _
  have MX2 : Hid (Blk w2 w1.heap.size #[.int .i64 r.kind, .slice A r.set.length c, .slice K r.kids.length ck] TRx) := by rw [hw2]; exact (blk_new w1 _ _).alloc _
  have MY2 : Hid (Blk w2 (w1.heap.size + 1) #[.int .i64 s.kind, .slice B s.set.length d, .slice M s.kids.length dm] TRx) := by
    rw [hw2]
    have := blk_new (w1.alloc (.cells #[.int .i64 r.kind, .slice A r.set.length c, .slice K r.kids.length ck] TRx)) #[.int .i64 s.kind, .slice B s.set.length d, .slice M s.kids.length dm] TRx
    rw [show (w1.alloc (.cells #[.int .i64 r.kind, .slice A r.set.length c, .slice K r.kids.length ck] TRx)).heap.size = w1.heap.size + 1 by simp] at this
    exact this
  have HV2 := Lib.hid (hv.rexv.under bb)
  have HU2 := Lib.hid (hv2.rexv.under bb)
  have B2 := Lib.hid (below_then b1 bb)
  rw [← hw2]
  clear hw2 bb hv hv2 b1
  refine (iRexMany_c r _ _ w2 0 HV2.out (by omega)).mono ?_
  rintro e w3 ⟨rfl, b3⟩
  have MX3 := Lib.hid (MX2.out.below b3)
  have MY3 := Lib.hid (MY2.out.below b3)
  have HV3 := Lib.hid (HV2.out.under b3)
  have HU3 := Lib.hid (HU2.out.under b3)
  have B3 := Lib.hid (below_then B2.out b3)
  clear MX2 MY2 HV2 HU2 B2 b3
  have u := ((MX3.out).cell 0).trans rfl
  have u' := ((MX3.out).cell 1).trans rfl
  have u'' := ((MX3.out).cell 2).trans rfl
  have hnr := rexMany_le r
  have hns := rexMany_le s
  obtain ⟨n, hn⟩ : ∃ n, n = rexMany r := ⟨_, rfl⟩
  obtain ⟨m, hm⟩ : ∃ m, m = rexMany s := ⟨_, rfl⟩
  rw [← hn] at hnr ⊢
  rw [← hm] at hns
  obtain ⟨hn0, hn1⟩ := hnr
  obtain ⟨hm0, hm1⟩ := hns
  go_wp2_with fail
  refine (sRexMany_c r _ _ w3 0 HV3.out (by omega)).mono ?_
  rintro e w4 ⟨rfl, b4⟩
  rw [← hn]
  have MX4 := Lib.hid (MX3.out.below b4)
  have MY4 := Lib.hid (MY3.out.below b4)
  have HV4 := Lib.hid (HV3.out.under b4)
  have HU4 := Lib.hid (HU3.out.under b4)
  have B4 := Lib.hid (below_then B3.out b4)
  clear MX3 MY3 HV3 HU3 B3 b4 u u' u''
  have x := ((MX4.out).cell 0).trans rfl
  have x' := ((MX4.out).cell 1).trans rfl
  have x'' := ((MX4.out).cell 2).trans rfl
  have y := ((MY4.out).cell 0).trans rfl
  have y' := ((MY4.out).cell 1).trans rfl
  have y'' := ((MY4.out).cell 2).trans rfl
  have x1 := fun o o' => cell_alloc (cell_alloc x o) o'
  have x1' := fun o o' => cell_alloc (cell_alloc x' o) o'
  have x1'' := fun o o' => cell_alloc (cell_alloc x'' o) o'
  have y1 := fun o o' => cell_alloc (cell_alloc y o) o'
  have y1' := fun o o' => cell_alloc (cell_alloc y' o) o'
  have y1'' := fun o o' => cell_alloc (cell_alloc y'' o) o'
  obtain ⟨w5, hw5⟩ : ∃ x, x = (w4.alloc (.cells #[.int .i64 r.kind, .slice A r.set.length c, .slice K r.kids.length ck] TRx)).alloc (.cells #[.int .i64 5, nilS, .slice (some ⟨w4.heap.size, 0, none⟩) 1 1] TRx) := ⟨_, rfl⟩
  obtain ⟨hn5, mn5, b5⟩ := box_one 5 HV4.out hw5
  have hz5 : w5.heap.size = w4.heap.size + 2 := by rw [hw5]; simp
  obtain ⟨w6, hw6⟩ : ∃ x, x = (w5.alloc (.cells #[.int .i64 r.kind, .slice A r.set.length c, .slice K r.kids.length ck, .int .i64 s.kind, .slice B s.set.length d, .slice M s.kids.length dm] TRx)).alloc (.cells #[.int .i64 3, nilS, .slice (some ⟨w5.heap.size, 0, none⟩) 2 2] TRx) := ⟨_, rfl⟩
  obtain ⟨hn6, mn6, b6⟩ := box_two 3 (HV4.out.under b5) (HU4.out.under b5) hw6
  rw [hz5] at hn6 mn6
  have b46 := below_then b5 b6
  have HS := Lib.hid (hn5.under b6)
  have MS := Lib.hid (mn5.below b6)
  have HC := Lib.hid hn6
  have MC := Lib.hid mn6
  have HV6 := Lib.hid (HV4.out.under b46)
  have HU6 := Lib.hid (HU4.out.under b46)
  have MX6 := Lib.hid (MX4.out.below b46)
  have MY6 := Lib.hid (MY4.out.below b46)
  have B6 := Lib.hid (below_then B4.out b46)
  have hw6' : Hid (((((w4.alloc (.cells #[.int .i64 r.kind, .slice A r.set.length c, .slice K r.kids.length ck] TRx)).alloc (.cells #[.int .i64 5, nilS, .slice (some ⟨w4.heap.size, 0, none⟩) 1 1] TRx)).alloc (.cells #[.int .i64 r.kind, .slice A r.set.length c, .slice K r.kids.length ck, .int .i64 s.kind, .slice B s.set.length d, .slice M s.kids.length dm] TRx)).alloc (.cells #[.int .i64 3, nilS, .slice (some ⟨w4.heap.size + 2, 0, none⟩) 2 2] TRx)) = w6) := by
    show _ = _
    rw [hw6, hz5, hw5]
  have hss : (Rex.mk 5 [] [r]).size ≤ 1048576 := by rw [size_one]; omega
  have hsc : (Rex.mk 3 [] [r, s]).size ≤ 1048576 := by rw [size_two]; omega
  clear hw5 hw6 hz5 hn5 mn5 b5 hn6 mn6 b6 b46 HV4 HU4 MX4 MY4
  have HN := Lib.hid hn
  have HM := Lib.hid hm
  clear hn hm
  have hkl : Hid (r.kids.length ≤ maxN) := by
    obtain ⟨_, _, _, _, _, _, _, _, hkk⟩ := HV6.out.parts
    exact hkk.len
  by_cases hokr : rexOk r = true
  · have HOK := Lib.hid hokr
    have HPOS : Hid (1 ≤ n) := by show _ ≤ _; rw [HN.out]; exact (rexMany_pos hokr).1
    clear hokr
    by_cases hS : rexOk (.mk 5 [] [r]) = true
    · have ES := Lib.hid hS
      have EM : Hid (rexMany (.mk 5 [] [r]) = n + 1) := by show _ = _; rw [rexMany_one hS, HN.out]
      clear hS
      by_cases hC : rexOk (.mk 3 [] [r, s]) = true
      · have EC := Lib.hid hC
        have EN : Hid (rexMany (.mk 3 [] [r, s]) = n + m + 1) := by show _ = _; rw [rexMany_two hC, HN.out, HM.out]
        clear hC
        go_wp2_with fail
        rw [hw6'.out]
        clear x x' x'' y y' y'' x1 x1' x1'' y1 y1' y1'' hw6'
        have N : ∀ x : BW w6, x.w1.cell? ⟨w1.heap.size, 0, none⟩ = some (.int .i64 r.kind) := fun x => (((MX6.out).below x.up).cell 0).trans rfl
        have N' : ∀ x : BW w6, x.w1.cell? ⟨w1.heap.size, 1, none⟩ = some (.slice A r.set.length c) := fun x => (((MX6.out).below x.up).cell 1).trans rfl
        have N'' : ∀ x : BW w6, x.w1.cell? ⟨w1.heap.size, 2, none⟩ = some (.slice K r.kids.length ck) := fun x => (((MX6.out).below x.up).cell 2).trans rfl
        have O : ∀ x : BW w6, x.w1.cell? ⟨w1.heap.size + 1, 0, none⟩ = some (.int .i64 s.kind) := fun x => (((MY6.out).below x.up).cell 0).trans rfl
        have O' : ∀ x : BW w6, x.w1.cell? ⟨w1.heap.size + 1, 1, none⟩ = some (.slice B s.set.length d) := fun x => (((MY6.out).below x.up).cell 1).trans rfl
        have O'' : ∀ x : BW w6, x.w1.cell? ⟨w1.heap.size + 1, 2, none⟩ = some (.slice M s.kids.length dm) := fun x => (((MY6.out).below x.up).cell 2).trans rfl
        have P : ∀ x : BW w6, x.w1.cell? ⟨w4.heap.size + 1, 0, none⟩ = some (.int .i64 5) := fun x => (((MS.out).below x.up).cell 0).trans rfl
        have P' : ∀ x : BW w6, x.w1.cell? ⟨w4.heap.size + 1, 1, none⟩ = some (nilS) := fun x => (((MS.out).below x.up).cell 1).trans rfl
        have P'' : ∀ x : BW w6, x.w1.cell? ⟨w4.heap.size + 1, 2, none⟩ = some (.slice (some ⟨w4.heap.size, 0, none⟩) 1 1) := fun x => (((MS.out).below x.up).cell 2).trans rfl
        have R : ∀ x : BW w6, x.w1.cell? ⟨w4.heap.size + 3, 0, none⟩ = some (.int .i64 3) := fun x => (((MC.out).below x.up).cell 0).trans rfl
        have R' : ∀ x : BW w6, x.w1.cell? ⟨w4.heap.size + 3, 1, none⟩ = some (nilS) := fun x => (((MC.out).below x.up).cell 1).trans rfl
        have R'' : ∀ x : BW w6, x.w1.cell? ⟨w4.heap.size + 3, 2, none⟩ = some (.slice (some ⟨w4.heap.size + 2, 0, none⟩) 2 2) := fun x => (((MC.out).below x.up).cell 2).trans rfl
        have CS : Hid (∀ x : BW w6, Calls Try.prog 22 #[.agg #[.int .i64 5, nilS, .slice (some ⟨w4.heap.size, 0, none⟩) 1 1]] x.w1 fun e w'' => e = .returned (.bool true) ∧ ∃ y : BW w6, w'' = y.w1) := fun x => Calls.bw (bv ES.out) (iRexOk_c (.mk 5 [] [r]) _ _ _ _ (HS.out.under x.up) hss)
        have CC : Hid (∀ x : BW w6, Calls Try.prog 22 #[.agg #[.int .i64 3, nilS, .slice (some ⟨w4.heap.size + 2, 0, none⟩) 2 2]] x.w1 fun e w'' => e = .returned (.bool true) ∧ ∃ y : BW w6, w'' = y.w1) := fun x => Calls.bw (bv EC.out) (iRexOk_c (.mk 3 [] [r, s]) _ _ _ _ (HC.out.under x.up) hsc)
        have CM : Hid (∀ x : BW w6, Calls Try.prog 20 #[.agg #[.int .i64 5, nilS, .slice (some ⟨w4.heap.size, 0, none⟩) 1 1]] x.w1 fun e w'' => e = .returned (.int .i64 (n + 1)) ∧ ∃ y : BW w6, w'' = y.w1) := fun x => Calls.bw (iv EM.out) (iRexMany_c (.mk 5 [] [r]) _ _ _ _ (HS.out.under x.up) hss)
        have CN : Hid (∀ x : BW w6, Calls Try.prog 20 #[.agg #[.int .i64 3, nilS, .slice (some ⟨w4.heap.size + 2, 0, none⟩) 2 2]] x.w1 fun e w'' => e = .returned (.int .i64 (n + m + 1)) ∧ ∃ y : BW w6, w'' = y.w1) := fun x => Calls.bw (iv EN.out) (iRexMany_c (.mk 3 [] [r, s]) _ _ _ _ (HC.out.under x.up) hsc)
        have CB : Hid (∀ x : BW w6, Calls Try.prog 20 #[.agg #[.int .i64 s.kind, .slice B s.set.length d, .slice M s.kids.length dm]] x.w1 fun e w'' => e = .returned (.int .i64 m) ∧ ∃ y : BW w6, w'' = y.w1) := fun x => Calls.bw (iv HM.out.symm) (iRexMany_c s _ _ _ _ (HU6.out.under x.up) (by omega))
        clear HN HM HS HC EM EN ES EC
        refine wp_region_bw (by kernel_rfl) (by kernel_rfl) ?_
        repeat (go_big_quiet_step ((first | (go_at_call 22; with_reducible exact CS.out _) | (go_at_call 22; with_reducible exact CC.out _) | (go_at_call 20; with_reducible exact CM.out _) | (go_at_call 20; with_reducible exact CN.out _) | (go_at_call 20; with_reducible exact CB.out _))))
        refine wpQuiet_nil ?_
        rintro w7 ⟨x7, y7⟩
        have b7 : Below w6.heap.size w6 w7 := y7 ▸ x7.up
        clear N N' N'' O O' O'' P P' P'' R R' R'' y7
        have MX7 := Lib.hid (MX6.out.below b7)
        have HV7 := Lib.hid (HV6.out.under b7)
        have B7 := Lib.hid (below_then B6.out b7)
        clear b7 MS MC HU6 HV6 MX6 MY6 B6 CS CC CM CN CB
        go_wp2_with fail
        go_loopg [8] (r.kids.length) (fun n i wr => ∃ j : Nat, j + n = r.kids.length ∧ i = .int .i64 j ∧ Hid (Below w7.heap.size w7 wr))
        case atStart => exact ⟨0, by omega, rfl, Below.refl _ _⟩
        case round =>
          obtain ⟨j, hj, rfl, HB⟩ := hrel
          have MXr := MX7.out.below HB.out
          have HVr := HV7.out.under HB.out
          have x := ((MXr).cell 0).trans rfl
          have x' := ((MXr).cell 1).trans rfl
          have x'' := ((MXr).cell 2).trans rfl
          have hlen : r.kids.length ≤ 9223372036854775807 := by have := hkl.out; unfold maxN at this; exact this
          by_cases hlt : j < r.kids.length
          · have hlt' : (j : Int) < (r.kids.length : Int) := by omega
            have hj0 : (0 : Int) ≤ (j : Int) := by omega
            go_wp2_with fail
            refine (sRexOk_c r _ _ wr 0 HVr (by omega)).mono ?_
            rintro e w8 ⟨rfl, b8⟩
            rw [HOK.out]
            have MX8 := MXr.below b8
            have B8 := Lib.hid (below_then HB.out b8)
            obtain ⟨_, _, _, _, e1, e2, e3, _, hkk⟩ := (HVr.under b8).parts
            injection e3 with e4 e5 e6
            subst e4 e6
            obtain ⟨a, q, v1, v2, rfl, HX, _, HVq, k0, k1, k2⟩ := hkk.at_ j hlt
            have hmem := List.mem_of_getElem? HX.out
            have hsq : q.size ≤ 1048576 := by
              have h1 := size_kid hmem
              have h2 := hs
              rw [Rex.eta r, Rex.size] at h2
              omega
            have hokq : rexOk q = true := rexOk_kid (by rw [← Rex.eta]; exact HOK.out) hmem
            have HQ := Lib.hid hokq
            clear b8 e1 e2 e5 hkk HX hmem hokq x x' x'' MXr HVr
            have x := ((MX8).cell 0).trans rfl
            have x' := ((MX8).cell 1).trans rfl
            have x'' := ((MX8).cell 2).trans rfl
            go_wp2_with fail
            refine (iRexOk_c q _ _ w8 0 HVq.out hsq).mono ?_
            rintro e w9 ⟨rfl, b9⟩
            rw [HQ.out]
            clear x x' x'' k0 k1 k2
            go_wp2
            go_roundg (gk - 1)
            case rel => exact ⟨j + 1, by omega, by go_num, below_then B8.out b9⟩
            case measure => omega
          · have hlt' : ¬ (j : Int) < (r.kids.length : Int) := by omega
            go_wp2_with fail
            refine (sRexOk_c r _ _ wr 0 HVr (by omega)).mono ?_
            rintro e w8 ⟨rfl, b8⟩
            rw [HOK.out]
            have hn1 : (n == 0) = false := by have := HPOS.out; simp; omega
            go_wp2
            go_ret
            exact ⟨rfl, below_then B7.out (below_then HB.out b8)⟩
      · have EC : Hid (rexOk (.mk 3 [] [r, s]) = false) := by show _ = _; simpa using hC
        have EN : Hid (rexMany (.mk 3 [] [r, s]) = 0) := rexMany_no EC.out
        clear hC
        go_wp2_with fail
        rw [hw6'.out]
        clear x x' x'' y y' y'' x1 x1' x1'' y1 y1' y1'' hw6'
        have N : ∀ x : BW w6, x.w1.cell? ⟨w1.heap.size, 0, none⟩ = some (.int .i64 r.kind) := fun x => (((MX6.out).below x.up).cell 0).trans rfl
        have N' : ∀ x : BW w6, x.w1.cell? ⟨w1.heap.size, 1, none⟩ = some (.slice A r.set.length c) := fun x => (((MX6.out).below x.up).cell 1).trans rfl
        have N'' : ∀ x : BW w6, x.w1.cell? ⟨w1.heap.size, 2, none⟩ = some (.slice K r.kids.length ck) := fun x => (((MX6.out).below x.up).cell 2).trans rfl
        have O : ∀ x : BW w6, x.w1.cell? ⟨w1.heap.size + 1, 0, none⟩ = some (.int .i64 s.kind) := fun x => (((MY6.out).below x.up).cell 0).trans rfl
        have O' : ∀ x : BW w6, x.w1.cell? ⟨w1.heap.size + 1, 1, none⟩ = some (.slice B s.set.length d) := fun x => (((MY6.out).below x.up).cell 1).trans rfl
        have O'' : ∀ x : BW w6, x.w1.cell? ⟨w1.heap.size + 1, 2, none⟩ = some (.slice M s.kids.length dm) := fun x => (((MY6.out).below x.up).cell 2).trans rfl
        have P : ∀ x : BW w6, x.w1.cell? ⟨w4.heap.size + 1, 0, none⟩ = some (.int .i64 5) := fun x => (((MS.out).below x.up).cell 0).trans rfl
        have P' : ∀ x : BW w6, x.w1.cell? ⟨w4.heap.size + 1, 1, none⟩ = some (nilS) := fun x => (((MS.out).below x.up).cell 1).trans rfl
        have P'' : ∀ x : BW w6, x.w1.cell? ⟨w4.heap.size + 1, 2, none⟩ = some (.slice (some ⟨w4.heap.size, 0, none⟩) 1 1) := fun x => (((MS.out).below x.up).cell 2).trans rfl
        have R : ∀ x : BW w6, x.w1.cell? ⟨w4.heap.size + 3, 0, none⟩ = some (.int .i64 3) := fun x => (((MC.out).below x.up).cell 0).trans rfl
        have R' : ∀ x : BW w6, x.w1.cell? ⟨w4.heap.size + 3, 1, none⟩ = some (nilS) := fun x => (((MC.out).below x.up).cell 1).trans rfl
        have R'' : ∀ x : BW w6, x.w1.cell? ⟨w4.heap.size + 3, 2, none⟩ = some (.slice (some ⟨w4.heap.size + 2, 0, none⟩) 2 2) := fun x => (((MC.out).below x.up).cell 2).trans rfl
        have CS : Hid (∀ x : BW w6, Calls Try.prog 22 #[.agg #[.int .i64 5, nilS, .slice (some ⟨w4.heap.size, 0, none⟩) 1 1]] x.w1 fun e w'' => e = .returned (.bool true) ∧ ∃ y : BW w6, w'' = y.w1) := fun x => Calls.bw (bv ES.out) (iRexOk_c (.mk 5 [] [r]) _ _ _ _ (HS.out.under x.up) hss)
        have CC : Hid (∀ x : BW w6, Calls Try.prog 22 #[.agg #[.int .i64 3, nilS, .slice (some ⟨w4.heap.size + 2, 0, none⟩) 2 2]] x.w1 fun e w'' => e = .returned (.bool false) ∧ ∃ y : BW w6, w'' = y.w1) := fun x => Calls.bw (bv EC.out) (iRexOk_c (.mk 3 [] [r, s]) _ _ _ _ (HC.out.under x.up) hsc)
        have CM : Hid (∀ x : BW w6, Calls Try.prog 20 #[.agg #[.int .i64 5, nilS, .slice (some ⟨w4.heap.size, 0, none⟩) 1 1]] x.w1 fun e w'' => e = .returned (.int .i64 (n + 1)) ∧ ∃ y : BW w6, w'' = y.w1) := fun x => Calls.bw (iv EM.out) (iRexMany_c (.mk 5 [] [r]) _ _ _ _ (HS.out.under x.up) hss)
        have CN : Hid (∀ x : BW w6, Calls Try.prog 20 #[.agg #[.int .i64 3, nilS, .slice (some ⟨w4.heap.size + 2, 0, none⟩) 2 2]] x.w1 fun e w'' => e = .returned (.int .i64 0) ∧ ∃ y : BW w6, w'' = y.w1) := fun x => Calls.bw (iv EN.out) (iRexMany_c (.mk 3 [] [r, s]) _ _ _ _ (HC.out.under x.up) hsc)
        have CB : Hid (∀ x : BW w6, Calls Try.prog 20 #[.agg #[.int .i64 s.kind, .slice B s.set.length d, .slice M s.kids.length dm]] x.w1 fun e w'' => e = .returned (.int .i64 m) ∧ ∃ y : BW w6, w'' = y.w1) := fun x => Calls.bw (iv HM.out.symm) (iRexMany_c s _ _ _ _ (HU6.out.under x.up) (by omega))
        clear HN HM HS HC EM EN ES EC
        refine wp_region_bw (by kernel_rfl) (by kernel_rfl) ?_
        repeat (go_big_quiet_step ((first | (go_at_call 22; with_reducible exact CS.out _) | (go_at_call 22; with_reducible exact CC.out _) | (go_at_call 20; with_reducible exact CM.out _) | (go_at_call 20; with_reducible exact CN.out _) | (go_at_call 20; with_reducible exact CB.out _))))
        refine wpQuiet_nil ?_
        rintro w7 ⟨x7, y7⟩
        have b7 : Below w6.heap.size w6 w7 := y7 ▸ x7.up
        clear N N' N'' O O' O'' P P' P'' R R' R'' y7
        have MX7 := Lib.hid (MX6.out.below b7)
        have HV7 := Lib.hid (HV6.out.under b7)
        have B7 := Lib.hid (below_then B6.out b7)
        clear b7 MS MC HU6 HV6 MX6 MY6 B6 CS CC CM CN CB
        go_wp2_with fail
        go_loopg [8] (r.kids.length) (fun n i wr => ∃ j : Nat, j + n = r.kids.length ∧ i = .int .i64 j ∧ Hid (Below w7.heap.size w7 wr))
        case atStart => exact ⟨0, by omega, rfl, Below.refl _ _⟩
        case round =>
          obtain ⟨j, hj, rfl, HB⟩ := hrel
          have MXr := MX7.out.below HB.out
          have HVr := HV7.out.under HB.out
          have x := ((MXr).cell 0).trans rfl
          have x' := ((MXr).cell 1).trans rfl
          have x'' := ((MXr).cell 2).trans rfl
          have hlen : r.kids.length ≤ 9223372036854775807 := by have := hkl.out; unfold maxN at this; exact this
          by_cases hlt : j < r.kids.length
          · have hlt' : (j : Int) < (r.kids.length : Int) := by omega
            have hj0 : (0 : Int) ≤ (j : Int) := by omega
            go_wp2_with fail
            refine (sRexOk_c r _ _ wr 0 HVr (by omega)).mono ?_
            rintro e w8 ⟨rfl, b8⟩
            rw [HOK.out]
            have MX8 := MXr.below b8
            have B8 := Lib.hid (below_then HB.out b8)
            obtain ⟨_, _, _, _, e1, e2, e3, _, hkk⟩ := (HVr.under b8).parts
            injection e3 with e4 e5 e6
            subst e4 e6
            obtain ⟨a, q, v1, v2, rfl, HX, _, HVq, k0, k1, k2⟩ := hkk.at_ j hlt
            have hmem := List.mem_of_getElem? HX.out
            have hsq : q.size ≤ 1048576 := by
              have h1 := size_kid hmem
              have h2 := hs
              rw [Rex.eta r, Rex.size] at h2
              omega
            have hokq : rexOk q = true := rexOk_kid (by rw [← Rex.eta]; exact HOK.out) hmem
            have HQ := Lib.hid hokq
            clear b8 e1 e2 e5 hkk HX hmem hokq x x' x'' MXr HVr
            have x := ((MX8).cell 0).trans rfl
            have x' := ((MX8).cell 1).trans rfl
            have x'' := ((MX8).cell 2).trans rfl
            go_wp2_with fail
            refine (iRexOk_c q _ _ w8 0 HVq.out hsq).mono ?_
            rintro e w9 ⟨rfl, b9⟩
            rw [HQ.out]
            clear x x' x'' k0 k1 k2
            go_wp2
            go_roundg (gk - 1)
            case rel => exact ⟨j + 1, by omega, by go_num, below_then B8.out b9⟩
            case measure => omega
          · have hlt' : ¬ (j : Int) < (r.kids.length : Int) := by omega
            go_wp2_with fail
            refine (sRexOk_c r _ _ wr 0 HVr (by omega)).mono ?_
            rintro e w8 ⟨rfl, b8⟩
            rw [HOK.out]
            have hn1 : (n == 0) = false := by have := HPOS.out; simp; omega
            go_wp2
            go_ret
            exact ⟨rfl, below_then B7.out (below_then HB.out b8)⟩
    · have ES : Hid (rexOk (.mk 5 [] [r]) = false) := by show _ = _; simpa using hS
      have EM : Hid (rexMany (.mk 5 [] [r]) = 0) := rexMany_no ES.out
      clear hS
      by_cases hC : rexOk (.mk 3 [] [r, s]) = true
      · have EC := Lib.hid hC
        have EN : Hid (rexMany (.mk 3 [] [r, s]) = n + m + 1) := by show _ = _; rw [rexMany_two hC, HN.out, HM.out]
        clear hC
        go_wp2_with fail
        rw [hw6'.out]
        clear x x' x'' y y' y'' x1 x1' x1'' y1 y1' y1'' hw6'
        have N : ∀ x : BW w6, x.w1.cell? ⟨w1.heap.size, 0, none⟩ = some (.int .i64 r.kind) := fun x => (((MX6.out).below x.up).cell 0).trans rfl
        have N' : ∀ x : BW w6, x.w1.cell? ⟨w1.heap.size, 1, none⟩ = some (.slice A r.set.length c) := fun x => (((MX6.out).below x.up).cell 1).trans rfl
        have N'' : ∀ x : BW w6, x.w1.cell? ⟨w1.heap.size, 2, none⟩ = some (.slice K r.kids.length ck) := fun x => (((MX6.out).below x.up).cell 2).trans rfl
        have O : ∀ x : BW w6, x.w1.cell? ⟨w1.heap.size + 1, 0, none⟩ = some (.int .i64 s.kind) := fun x => (((MY6.out).below x.up).cell 0).trans rfl
        have O' : ∀ x : BW w6, x.w1.cell? ⟨w1.heap.size + 1, 1, none⟩ = some (.slice B s.set.length d) := fun x => (((MY6.out).below x.up).cell 1).trans rfl
        have O'' : ∀ x : BW w6, x.w1.cell? ⟨w1.heap.size + 1, 2, none⟩ = some (.slice M s.kids.length dm) := fun x => (((MY6.out).below x.up).cell 2).trans rfl
        have P : ∀ x : BW w6, x.w1.cell? ⟨w4.heap.size + 1, 0, none⟩ = some (.int .i64 5) := fun x => (((MS.out).below x.up).cell 0).trans rfl
        have P' : ∀ x : BW w6, x.w1.cell? ⟨w4.heap.size + 1, 1, none⟩ = some (nilS) := fun x => (((MS.out).below x.up).cell 1).trans rfl
        have P'' : ∀ x : BW w6, x.w1.cell? ⟨w4.heap.size + 1, 2, none⟩ = some (.slice (some ⟨w4.heap.size, 0, none⟩) 1 1) := fun x => (((MS.out).below x.up).cell 2).trans rfl
        have R : ∀ x : BW w6, x.w1.cell? ⟨w4.heap.size + 3, 0, none⟩ = some (.int .i64 3) := fun x => (((MC.out).below x.up).cell 0).trans rfl
        have R' : ∀ x : BW w6, x.w1.cell? ⟨w4.heap.size + 3, 1, none⟩ = some (nilS) := fun x => (((MC.out).below x.up).cell 1).trans rfl
        have R'' : ∀ x : BW w6, x.w1.cell? ⟨w4.heap.size + 3, 2, none⟩ = some (.slice (some ⟨w4.heap.size + 2, 0, none⟩) 2 2) := fun x => (((MC.out).below x.up).cell 2).trans rfl
        have CS : Hid (∀ x : BW w6, Calls Try.prog 22 #[.agg #[.int .i64 5, nilS, .slice (some ⟨w4.heap.size, 0, none⟩) 1 1]] x.w1 fun e w'' => e = .returned (.bool false) ∧ ∃ y : BW w6, w'' = y.w1) := fun x => Calls.bw (bv ES.out) (iRexOk_c (.mk 5 [] [r]) _ _ _ _ (HS.out.under x.up) hss)
        have CC : Hid (∀ x : BW w6, Calls Try.prog 22 #[.agg #[.int .i64 3, nilS, .slice (some ⟨w4.heap.size + 2, 0, none⟩) 2 2]] x.w1 fun e w'' => e = .returned (.bool true) ∧ ∃ y : BW w6, w'' = y.w1) := fun x => Calls.bw (bv EC.out) (iRexOk_c (.mk 3 [] [r, s]) _ _ _ _ (HC.out.under x.up) hsc)
        have CM : Hid (∀ x : BW w6, Calls Try.prog 20 #[.agg #[.int .i64 5, nilS, .slice (some ⟨w4.heap.size, 0, none⟩) 1 1]] x.w1 fun e w'' => e = .returned (.int .i64 0) ∧ ∃ y : BW w6, w'' = y.w1) := fun x => Calls.bw (iv EM.out) (iRexMany_c (.mk 5 [] [r]) _ _ _ _ (HS.out.under x.up) hss)
        have CN : Hid (∀ x : BW w6, Calls Try.prog 20 #[.agg #[.int .i64 3, nilS, .slice (some ⟨w4.heap.size + 2, 0, none⟩) 2 2]] x.w1 fun e w'' => e = .returned (.int .i64 (n + m + 1)) ∧ ∃ y : BW w6, w'' = y.w1) := fun x => Calls.bw (iv EN.out) (iRexMany_c (.mk 3 [] [r, s]) _ _ _ _ (HC.out.under x.up) hsc)
        have CB : Hid (∀ x : BW w6, Calls Try.prog 20 #[.agg #[.int .i64 s.kind, .slice B s.set.length d, .slice M s.kids.length dm]] x.w1 fun e w'' => e = .returned (.int .i64 m) ∧ ∃ y : BW w6, w'' = y.w1) := fun x => Calls.bw (iv HM.out.symm) (iRexMany_c s _ _ _ _ (HU6.out.under x.up) (by omega))
        clear HN HM HS HC EM EN ES EC
        refine wp_region_bw (by kernel_rfl) (by kernel_rfl) ?_
        repeat (go_big_quiet_step ((first | (go_at_call 22; with_reducible exact CS.out _) | (go_at_call 22; with_reducible exact CC.out _) | (go_at_call 20; with_reducible exact CM.out _) | (go_at_call 20; with_reducible exact CN.out _) | (go_at_call 20; with_reducible exact CB.out _))))
        refine wpQuiet_nil ?_
        rintro w7 ⟨x7, y7⟩
        have b7 : Below w6.heap.size w6 w7 := y7 ▸ x7.up
        clear N N' N'' O O' O'' P P' P'' R R' R'' y7
        have MX7 := Lib.hid (MX6.out.below b7)
        have HV7 := Lib.hid (HV6.out.under b7)
        have B7 := Lib.hid (below_then B6.out b7)
        clear b7 MS MC HU6 HV6 MX6 MY6 B6 CS CC CM CN CB
        go_wp2_with fail
        go_loopg [8] (r.kids.length) (fun n i wr => ∃ j : Nat, j + n = r.kids.length ∧ i = .int .i64 j ∧ Hid (Below w7.heap.size w7 wr))
        case atStart => exact ⟨0, by omega, rfl, Below.refl _ _⟩
        case round =>
          obtain ⟨j, hj, rfl, HB⟩ := hrel
          have MXr := MX7.out.below HB.out
          have HVr := HV7.out.under HB.out
          have x := ((MXr).cell 0).trans rfl
          have x' := ((MXr).cell 1).trans rfl
          have x'' := ((MXr).cell 2).trans rfl
          have hlen : r.kids.length ≤ 9223372036854775807 := by have := hkl.out; unfold maxN at this; exact this
          by_cases hlt : j < r.kids.length
          · have hlt' : (j : Int) < (r.kids.length : Int) := by omega
            have hj0 : (0 : Int) ≤ (j : Int) := by omega
            go_wp2_with fail
            refine (sRexOk_c r _ _ wr 0 HVr (by omega)).mono ?_
            rintro e w8 ⟨rfl, b8⟩
            rw [HOK.out]
            have MX8 := MXr.below b8
            have B8 := Lib.hid (below_then HB.out b8)
            obtain ⟨_, _, _, _, e1, e2, e3, _, hkk⟩ := (HVr.under b8).parts
            injection e3 with e4 e5 e6
            subst e4 e6
            obtain ⟨a, q, v1, v2, rfl, HX, _, HVq, k0, k1, k2⟩ := hkk.at_ j hlt
            have hmem := List.mem_of_getElem? HX.out
            have hsq : q.size ≤ 1048576 := by
              have h1 := size_kid hmem
              have h2 := hs
              rw [Rex.eta r, Rex.size] at h2
              omega
            have hokq : rexOk q = true := rexOk_kid (by rw [← Rex.eta]; exact HOK.out) hmem
            have HQ := Lib.hid hokq
            clear b8 e1 e2 e5 hkk HX hmem hokq x x' x'' MXr HVr
            have x := ((MX8).cell 0).trans rfl
            have x' := ((MX8).cell 1).trans rfl
            have x'' := ((MX8).cell 2).trans rfl
            go_wp2_with fail
            refine (iRexOk_c q _ _ w8 0 HVq.out hsq).mono ?_
            rintro e w9 ⟨rfl, b9⟩
            rw [HQ.out]
            clear x x' x'' k0 k1 k2
            go_wp2
            go_roundg (gk - 1)
            case rel => exact ⟨j + 1, by omega, by go_num, below_then B8.out b9⟩
            case measure => omega
          · have hlt' : ¬ (j : Int) < (r.kids.length : Int) := by omega
            go_wp2_with fail
            refine (sRexOk_c r _ _ wr 0 HVr (by omega)).mono ?_
            rintro e w8 ⟨rfl, b8⟩
            rw [HOK.out]
            have hn1 : (n == 0) = false := by have := HPOS.out; simp; omega
            go_wp2
            go_ret
            exact ⟨rfl, below_then B7.out (below_then HB.out b8)⟩
      · have EC : Hid (rexOk (.mk 3 [] [r, s]) = false) := by show _ = _; simpa using hC
        have EN : Hid (rexMany (.mk 3 [] [r, s]) = 0) := rexMany_no EC.out
        clear hC
        go_wp2_with fail
        rw [hw6'.out]
        clear x x' x'' y y' y'' x1 x1' x1'' y1 y1' y1'' hw6'
        have N : ∀ x : BW w6, x.w1.cell? ⟨w1.heap.size, 0, none⟩ = some (.int .i64 r.kind) := fun x => (((MX6.out).below x.up).cell 0).trans rfl
        have N' : ∀ x : BW w6, x.w1.cell? ⟨w1.heap.size, 1, none⟩ = some (.slice A r.set.length c) := fun x => (((MX6.out).below x.up).cell 1).trans rfl
        have N'' : ∀ x : BW w6, x.w1.cell? ⟨w1.heap.size, 2, none⟩ = some (.slice K r.kids.length ck) := fun x => (((MX6.out).below x.up).cell 2).trans rfl
        have O : ∀ x : BW w6, x.w1.cell? ⟨w1.heap.size + 1, 0, none⟩ = some (.int .i64 s.kind) := fun x => (((MY6.out).below x.up).cell 0).trans rfl
        have O' : ∀ x : BW w6, x.w1.cell? ⟨w1.heap.size + 1, 1, none⟩ = some (.slice B s.set.length d) := fun x => (((MY6.out).below x.up).cell 1).trans rfl
        have O'' : ∀ x : BW w6, x.w1.cell? ⟨w1.heap.size + 1, 2, none⟩ = some (.slice M s.kids.length dm) := fun x => (((MY6.out).below x.up).cell 2).trans rfl
        have P : ∀ x : BW w6, x.w1.cell? ⟨w4.heap.size + 1, 0, none⟩ = some (.int .i64 5) := fun x => (((MS.out).below x.up).cell 0).trans rfl
        have P' : ∀ x : BW w6, x.w1.cell? ⟨w4.heap.size + 1, 1, none⟩ = some (nilS) := fun x => (((MS.out).below x.up).cell 1).trans rfl
        have P'' : ∀ x : BW w6, x.w1.cell? ⟨w4.heap.size + 1, 2, none⟩ = some (.slice (some ⟨w4.heap.size, 0, none⟩) 1 1) := fun x => (((MS.out).below x.up).cell 2).trans rfl
        have R : ∀ x : BW w6, x.w1.cell? ⟨w4.heap.size + 3, 0, none⟩ = some (.int .i64 3) := fun x => (((MC.out).below x.up).cell 0).trans rfl
        have R' : ∀ x : BW w6, x.w1.cell? ⟨w4.heap.size + 3, 1, none⟩ = some (nilS) := fun x => (((MC.out).below x.up).cell 1).trans rfl
        have R'' : ∀ x : BW w6, x.w1.cell? ⟨w4.heap.size + 3, 2, none⟩ = some (.slice (some ⟨w4.heap.size + 2, 0, none⟩) 2 2) := fun x => (((MC.out).below x.up).cell 2).trans rfl
        have CS : Hid (∀ x : BW w6, Calls Try.prog 22 #[.agg #[.int .i64 5, nilS, .slice (some ⟨w4.heap.size, 0, none⟩) 1 1]] x.w1 fun e w'' => e = .returned (.bool false) ∧ ∃ y : BW w6, w'' = y.w1) := fun x => Calls.bw (bv ES.out) (iRexOk_c (.mk 5 [] [r]) _ _ _ _ (HS.out.under x.up) hss)
        have CC : Hid (∀ x : BW w6, Calls Try.prog 22 #[.agg #[.int .i64 3, nilS, .slice (some ⟨w4.heap.size + 2, 0, none⟩) 2 2]] x.w1 fun e w'' => e = .returned (.bool false) ∧ ∃ y : BW w6, w'' = y.w1) := fun x => Calls.bw (bv EC.out) (iRexOk_c (.mk 3 [] [r, s]) _ _ _ _ (HC.out.under x.up) hsc)
        have CM : Hid (∀ x : BW w6, Calls Try.prog 20 #[.agg #[.int .i64 5, nilS, .slice (some ⟨w4.heap.size, 0, none⟩) 1 1]] x.w1 fun e w'' => e = .returned (.int .i64 0) ∧ ∃ y : BW w6, w'' = y.w1) := fun x => Calls.bw (iv EM.out) (iRexMany_c (.mk 5 [] [r]) _ _ _ _ (HS.out.under x.up) hss)
        have CN : Hid (∀ x : BW w6, Calls Try.prog 20 #[.agg #[.int .i64 3, nilS, .slice (some ⟨w4.heap.size + 2, 0, none⟩) 2 2]] x.w1 fun e w'' => e = .returned (.int .i64 0) ∧ ∃ y : BW w6, w'' = y.w1) := fun x => Calls.bw (iv EN.out) (iRexMany_c (.mk 3 [] [r, s]) _ _ _ _ (HC.out.under x.up) hsc)
        have CB : Hid (∀ x : BW w6, Calls Try.prog 20 #[.agg #[.int .i64 s.kind, .slice B s.set.length d, .slice M s.kids.length dm]] x.w1 fun e w'' => e = .returned (.int .i64 m) ∧ ∃ y : BW w6, w'' = y.w1) := fun x => Calls.bw (iv HM.out.symm) (iRexMany_c s _ _ _ _ (HU6.out.under x.up) (by omega))
        clear HN HM HS HC EM EN ES EC
        refine wp_region_bw (by kernel_rfl) (by kernel_rfl) ?_
        repeat (go_big_quiet_step ((first | (go_at_call 22; with_reducible exact CS.out _) | (go_at_call 22; with_reducible exact CC.out _) | (go_at_call 20; with_reducible exact CM.out _) | (go_at_call 20; with_reducible exact CN.out _) | (go_at_call 20; with_reducible exact CB.out _))))
        refine wpQuiet_nil ?_
        rintro w7 ⟨x7, y7⟩
        have b7 : Below w6.heap.size w6 w7 := y7 ▸ x7.up
        clear N N' N'' O O' O'' P P' P'' R R' R'' y7
        have MX7 := Lib.hid (MX6.out.below b7)
        have HV7 := Lib.hid (HV6.out.under b7)
        have B7 := Lib.hid (below_then B6.out b7)
        clear b7 MS MC HU6 HV6 MX6 MY6 B6 CS CC CM CN CB
        go_wp2_with fail
        go_loopg [8] (r.kids.length) (fun n i wr => ∃ j : Nat, j + n = r.kids.length ∧ i = .int .i64 j ∧ Hid (Below w7.heap.size w7 wr))
        case atStart => exact ⟨0, by omega, rfl, Below.refl _ _⟩
        case round =>
          obtain ⟨j, hj, rfl, HB⟩ := hrel
          have MXr := MX7.out.below HB.out
          have HVr := HV7.out.under HB.out
          have x := ((MXr).cell 0).trans rfl
          have x' := ((MXr).cell 1).trans rfl
          have x'' := ((MXr).cell 2).trans rfl
          have hlen : r.kids.length ≤ 9223372036854775807 := by have := hkl.out; unfold maxN at this; exact this
          by_cases hlt : j < r.kids.length
          · have hlt' : (j : Int) < (r.kids.length : Int) := by omega
            have hj0 : (0 : Int) ≤ (j : Int) := by omega
            go_wp2_with fail
            refine (sRexOk_c r _ _ wr 0 HVr (by omega)).mono ?_
            rintro e w8 ⟨rfl, b8⟩
            rw [HOK.out]
            have MX8 := MXr.below b8
            have B8 := Lib.hid (below_then HB.out b8)
            obtain ⟨_, _, _, _, e1, e2, e3, _, hkk⟩ := (HVr.under b8).parts
            injection e3 with e4 e5 e6
            subst e4 e6
            obtain ⟨a, q, v1, v2, rfl, HX, _, HVq, k0, k1, k2⟩ := hkk.at_ j hlt
            have hmem := List.mem_of_getElem? HX.out
            have hsq : q.size ≤ 1048576 := by
              have h1 := size_kid hmem
              have h2 := hs
              rw [Rex.eta r, Rex.size] at h2
              omega
            have hokq : rexOk q = true := rexOk_kid (by rw [← Rex.eta]; exact HOK.out) hmem
            have HQ := Lib.hid hokq
            clear b8 e1 e2 e5 hkk HX hmem hokq x x' x'' MXr HVr
            have x := ((MX8).cell 0).trans rfl
            have x' := ((MX8).cell 1).trans rfl
            have x'' := ((MX8).cell 2).trans rfl
            go_wp2_with fail
            refine (iRexOk_c q _ _ w8 0 HVq.out hsq).mono ?_
            rintro e w9 ⟨rfl, b9⟩
            rw [HQ.out]
            clear x x' x'' k0 k1 k2
            go_wp2
            go_roundg (gk - 1)
            case rel => exact ⟨j + 1, by omega, by go_num, below_then B8.out b9⟩
            case measure => omega
          · have hlt' : ¬ (j : Int) < (r.kids.length : Int) := by omega
            go_wp2_with fail
            refine (sRexOk_c r _ _ wr 0 HVr (by omega)).mono ?_
            rintro e w8 ⟨rfl, b8⟩
            rw [HOK.out]
            have hn1 : (n == 0) = false := by have := HPOS.out; simp; omega
            go_wp2
            go_ret
            exact ⟨rfl, below_then B7.out (below_then HB.out b8)⟩
  · have HOK : Hid (rexOk r = false) := by show _ = _; simpa using hokr
    have ES : Hid (rexOk (.mk 5 [] [r]) = false) := by show _ = _; rw [Bool.eq_false_iff]; intro h; exact hokr (rexOk_kid h (by simp))
    have EC : Hid (rexOk (.mk 3 [] [r, s]) = false) := by show _ = _; rw [Bool.eq_false_iff]; intro h; exact hokr (rexOk_kid h (by simp))
    have EM : Hid (rexMany (.mk 5 [] [r]) = 0) := rexMany_no ES.out
    have EN : Hid (rexMany (.mk 3 [] [r, s]) = 0) := rexMany_no EC.out
    obtain rfl : n = 0 := by rw [HN.out, rexMany_no HOK.out]
    clear hokr
    go_wp2_with fail
    rw [hw6'.out]
    clear x x' x'' y y' y'' x1 x1' x1'' y1 y1' y1'' hw6'
    have N : ∀ x : BW w6, x.w1.cell? ⟨w1.heap.size, 0, none⟩ = some (.int .i64 r.kind) := fun x => (((MX6.out).below x.up).cell 0).trans rfl
    have N' : ∀ x : BW w6, x.w1.cell? ⟨w1.heap.size, 1, none⟩ = some (.slice A r.set.length c) := fun x => (((MX6.out).below x.up).cell 1).trans rfl
    have N'' : ∀ x : BW w6, x.w1.cell? ⟨w1.heap.size, 2, none⟩ = some (.slice K r.kids.length ck) := fun x => (((MX6.out).below x.up).cell 2).trans rfl
    have O : ∀ x : BW w6, x.w1.cell? ⟨w1.heap.size + 1, 0, none⟩ = some (.int .i64 s.kind) := fun x => (((MY6.out).below x.up).cell 0).trans rfl
    have O' : ∀ x : BW w6, x.w1.cell? ⟨w1.heap.size + 1, 1, none⟩ = some (.slice B s.set.length d) := fun x => (((MY6.out).below x.up).cell 1).trans rfl
    have O'' : ∀ x : BW w6, x.w1.cell? ⟨w1.heap.size + 1, 2, none⟩ = some (.slice M s.kids.length dm) := fun x => (((MY6.out).below x.up).cell 2).trans rfl
    have P : ∀ x : BW w6, x.w1.cell? ⟨w4.heap.size + 1, 0, none⟩ = some (.int .i64 5) := fun x => (((MS.out).below x.up).cell 0).trans rfl
    have P' : ∀ x : BW w6, x.w1.cell? ⟨w4.heap.size + 1, 1, none⟩ = some (nilS) := fun x => (((MS.out).below x.up).cell 1).trans rfl
    have P'' : ∀ x : BW w6, x.w1.cell? ⟨w4.heap.size + 1, 2, none⟩ = some (.slice (some ⟨w4.heap.size, 0, none⟩) 1 1) := fun x => (((MS.out).below x.up).cell 2).trans rfl
    have R : ∀ x : BW w6, x.w1.cell? ⟨w4.heap.size + 3, 0, none⟩ = some (.int .i64 3) := fun x => (((MC.out).below x.up).cell 0).trans rfl
    have R' : ∀ x : BW w6, x.w1.cell? ⟨w4.heap.size + 3, 1, none⟩ = some (nilS) := fun x => (((MC.out).below x.up).cell 1).trans rfl
    have R'' : ∀ x : BW w6, x.w1.cell? ⟨w4.heap.size + 3, 2, none⟩ = some (.slice (some ⟨w4.heap.size + 2, 0, none⟩) 2 2) := fun x => (((MC.out).below x.up).cell 2).trans rfl
    have CS : Hid (∀ x : BW w6, Calls Try.prog 22 #[.agg #[.int .i64 5, nilS, .slice (some ⟨w4.heap.size, 0, none⟩) 1 1]] x.w1 fun e w'' => e = .returned (.bool false) ∧ ∃ y : BW w6, w'' = y.w1) := fun x => Calls.bw (bv ES.out) (iRexOk_c (.mk 5 [] [r]) _ _ _ _ (HS.out.under x.up) hss)
    have CC : Hid (∀ x : BW w6, Calls Try.prog 22 #[.agg #[.int .i64 3, nilS, .slice (some ⟨w4.heap.size + 2, 0, none⟩) 2 2]] x.w1 fun e w'' => e = .returned (.bool false) ∧ ∃ y : BW w6, w'' = y.w1) := fun x => Calls.bw (bv EC.out) (iRexOk_c (.mk 3 [] [r, s]) _ _ _ _ (HC.out.under x.up) hsc)
    have CM : Hid (∀ x : BW w6, Calls Try.prog 20 #[.agg #[.int .i64 5, nilS, .slice (some ⟨w4.heap.size, 0, none⟩) 1 1]] x.w1 fun e w'' => e = .returned (.int .i64 0) ∧ ∃ y : BW w6, w'' = y.w1) := fun x => Calls.bw (iv EM.out) (iRexMany_c (.mk 5 [] [r]) _ _ _ _ (HS.out.under x.up) hss)
    have CN : Hid (∀ x : BW w6, Calls Try.prog 20 #[.agg #[.int .i64 3, nilS, .slice (some ⟨w4.heap.size + 2, 0, none⟩) 2 2]] x.w1 fun e w'' => e = .returned (.int .i64 0) ∧ ∃ y : BW w6, w'' = y.w1) := fun x => Calls.bw (iv EN.out) (iRexMany_c (.mk 3 [] [r, s]) _ _ _ _ (HC.out.under x.up) hsc)
    have CB : Hid (∀ x : BW w6, Calls Try.prog 20 #[.agg #[.int .i64 s.kind, .slice B s.set.length d, .slice M s.kids.length dm]] x.w1 fun e w'' => e = .returned (.int .i64 m) ∧ ∃ y : BW w6, w'' = y.w1) := fun x => Calls.bw (iv HM.out.symm) (iRexMany_c s _ _ _ _ (HU6.out.under x.up) (by omega))
    clear HN HM HS HC EM EN ES EC
    refine wp_region_bw (by kernel_rfl) (by kernel_rfl) ?_
    repeat (go_big_quiet_step ((first | (go_at_call 22; with_reducible exact CS.out _) | (go_at_call 22; with_reducible exact CC.out _) | (go_at_call 20; with_reducible exact CM.out _) | (go_at_call 20; with_reducible exact CN.out _) | (go_at_call 20; with_reducible exact CB.out _))))
    refine wpQuiet_nil ?_
    rintro w7 ⟨x7, y7⟩
    have b7 : Below w6.heap.size w6 w7 := y7 ▸ x7.up
    clear N N' N'' O O' O'' P P' P'' R R' R'' y7
    have MX7 := Lib.hid (MX6.out.below b7)
    have HV7 := Lib.hid (HV6.out.under b7)
    have B7 := Lib.hid (below_then B6.out b7)
    clear b7 MS MC HU6 HV6 MX6 MY6 B6 CS CC CM CN CB
    go_wp2_with fail
    go_loopg [8] (r.kids.length) (fun n i wr => ∃ j : Nat, j + n = r.kids.length ∧ i = .int .i64 j ∧ Hid (Below w7.heap.size w7 wr))
    case atStart => exact ⟨0, by omega, rfl, Below.refl _ _⟩
    case round =>
      obtain ⟨j, hj, rfl, HB⟩ := hrel
      have MXr := MX7.out.below HB.out
      have HVr := HV7.out.under HB.out
      have x := ((MXr).cell 0).trans rfl
      have x' := ((MXr).cell 1).trans rfl
      have x'' := ((MXr).cell 2).trans rfl
      have hlen : r.kids.length ≤ 9223372036854775807 := by have := hkl.out; unfold maxN at this; exact this
      by_cases hlt : j < r.kids.length
      · have hlt' : (j : Int) < (r.kids.length : Int) := by omega
        have hj0 : (0 : Int) ≤ (j : Int) := by omega
        go_wp2_with fail
        refine (sRexOk_c r _ _ wr 0 HVr (by omega)).mono ?_
        rintro e w8 ⟨rfl, b8⟩
        rw [HOK.out]
        have B8 := Lib.hid (below_then HB.out b8)
        clear b8 x x' x'' MXr HVr
        go_wp2
        go_roundg (gk - 1)
        case rel => exact ⟨j + 1, by omega, by go_num, B8.out⟩
        case measure => omega
      · have hlt' : ¬ (j : Int) < (r.kids.length : Int) := by omega
        go_wp2_with fail
        refine (sRexOk_c r _ _ wr 0 HVr (by omega)).mono ?_
        rintro e w8 ⟨rfl, b8⟩
        rw [HOK.out]
        go_wp2
        go_ret
        exact ⟨rfl, below_then B7.out (below_then HB.out b8)⟩

end Go.Proofs.Ytplhbjpkkhhilaa
