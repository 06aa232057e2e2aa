/- SetText of the program, walked. -/
import Derived.Test.YtlchipjckgaclaaDoorTz
namespace Go.Proofs.YtlchipjckgaclaaDoor
set_option linter.unusedSimpArgs false
set_option linter.unusedVariables false
set_option maxRecDepth 100000
open Go.RowKit

theorem str_dash (l : List UInt8) : (⟨#[45]⟩ : ByteArray) ++ str l = str (45 :: l) := str_append [45] l
set_option maxHeartbeats 2000000 in
theorem iSetText_c (A : Option Addr) (c : Nat) (xs : List Sp) (w : World) {lo : Nat} (h : Sps w lo A c xs) (h64 : sp64 xs) (hn : xs.length ≤ 1048576) (ht : Pow10 w) :
    Calls Tryd.prog 12 #[.slice A xs.length c] w fun e w' => e = .returned (.string (str (setTxt xs))) ∧ Below w.heap.size w w' := by
  have H := Lib.hid h
  have H64 := Lib.hid h64
  have HT := Lib.hid ht
  have HO0 : Hid (w.ownsRow w.heap.size TStr 1 (.slice none 0 0) 0 (txts (xs.take 0))) := World.ownsRow_nil _ _ _ _
  obtain ⟨iS, hiS, hzS0, hzS1, hzS2⟩ := info_parts infoStr
  clear h h64 ht
  go_enter Tryd.func12, Tryd.ntmps12
  by_cases hx0 : xs.length = 0
  · have d0 : ((xs.length : Int) == 0) = true := by simp [hx0]
    have E : Hid (setTxt xs = [110, 111]) := by show _ = _; rw [setTxt, if_pos hx0]
    clear hx0
    go_wp2_with fail
    go_ret
    exact ⟨by rw [E.out]; rfl, Below.refl _ _⟩
  have d0 : ((xs.length : Int) == 0) = false := by simp [hx0]
  have HX0 := Lib.hid hx0
  clear hx0
  go_wp2_with fail
  clear d0
  go_loopg [3, 12] xs.length (fun n v3 v12 wr => ∃ k : Nat, k + n = xs.length ∧ v12 = .int .i64 k ∧ ∃ (A2 : Option Addr) (c2 : Nat), v3 = .slice A2 k c2 ∧ Hid (wr.ownsRow w.heap.size TStr 1 (.slice A2 k c2) k (txts (xs.take k))) ∧ Hid (Below w.heap.size w wr))
  case atStart => exact ⟨0, by omega, rfl, none, 0, rfl, HO0, Below.refl _ _⟩
  case round =>
    clear HO0
    obtain ⟨k, hk, rfl, A2, c2, rfl, HO, HB⟩ := hrel
    by_cases hlt : k < xs.length
    · obtain ⟨a, x, rfl, HX, HD, h0, h1⟩ := (H.out.below HB.out).at_ k hlt
      have i0 : (0 : Int) ≤ (k : Int) := by omega
      have i1 : (k : Int) < (xs.length : Int) := by omega
      have hx := H64.out x (List.mem_of_getElem? HX.out)
      have hi0 := Lib.itoa_length_le x.lo hx.1.1 hx.1.2
      have hi1 := Lib.itoa_length_le x.hi hx.2.1 hx.2.2
      have hz0 := str_size (Lib.itoa x.lo)
      have hz1 := str_size (Lib.itoa x.hi)
      have HTS := Lib.hid (txts_snoc HX.out)
      go_wp2_with fail
      obtain ⟨wv, hwv⟩ : ∃ v, v = wr.alloc (.cells #[.int .i64 x.lo, .int .i64 x.hi] 60) := ⟨_, rfl⟩
      have bv' : Below wr.heap.size wr wv := by rw [hwv]; exact below_alloc (Below.refl _ _) _
      have M : Blk wv wr.heap.size #[.int .i64 x.lo, .int .i64 x.hi] 60 := by rw [hwv]; exact blk_new wr _ _
      rw [← hwv]
      clear hwv h0 h1
      refine (iItoa_c x.lo wv hx.1 (HT.out.below (below_then HB.out bv'))).mono ?_
      rintro e w1 ⟨rfl, b1⟩
      have M1 := Lib.hid (M.below b1)
      have B1 := Lib.hid (below_then bv' b1)
      have n0 : w1.cell? ⟨wr.heap.size, 0, none⟩ = some (.int .i64 x.lo) := by rw [M1.out.cell]; rfl
      have n1 : w1.cell? ⟨wr.heap.size, 1, none⟩ = some (.int .i64 x.hi) := by rw [M1.out.cell]; rfl
      clear bv' M b1
      by_cases hne : x.hi = x.lo
      · have HE : Hid (str (Lib.itoa x.lo) = str (spanTxt x)) := by show _ = _; unfold spanTxt; rw [if_pos hne, List.append_nil]
        have d1 : (x.hi != x.lo) = false := by simp [hne]
        have d2 : decide (¬ x.hi = x.lo) = false := by simp [hne]
        obtain ⟨w3, hw3⟩ : ∃ v, v = w1 := ⟨_, rfl⟩
        have B3 : Hid (Below w.heap.size w w3) := by rw [hw3]; exact below_then HB.out B1.out
        have B4 : Hid (Below wr.heap.size wr w3) := by rw [hw3]; exact B1.out
        rw [← hw3] at n0 n1 ⊢
        clear hw3 hne
        go_upto_region 10 with fail
        rw [HE.out]
        obtain ⟨tx, htx⟩ : ∃ t, t = str (spanTxt x) := ⟨_, rfl⟩
        rw [← htx]
        have HTX := Lib.hid htx
        clear htx
        have hn1 : k + 1 ≤ maxLen := by unfold maxLen; omega
        have hn2 : (k + 1) * 16 ≤ 140737488355328 := by omega
        have hn3 := B3.out.size
        have OW := Lib.hid (own_below HO.out (B4.out))
        go_wp2_with (at_builtin; refine wpList_append_row (by rfl) (.tmp 30) (.tmp 32) 63 (by rfl) w.heap.size TStr iS (.string ⟨#[]⟩) 1 16 Tryd.underlying63 hiS hzS0 hzS1 hzS2 rfl (by decide) (.slice A2 k c2) k (txts (xs.take k)) (by rfl) (own_below OW.out (below_alloc (Below.refl _ _) _)) (some ⟨w3.heap.size, 0, none⟩) 1 1 [.string tx] (by rfl) (.inr ⟨⟨w3.heap.size, 0, none⟩, rfl, Nat.zero_le _, new_cells w3 [.string tx] TStr⟩) rfl (fun u hu => by rw [List.mem_singleton.1 hu]; rfl) hn1 hn2 (by simp; omega) _ rfl (k + 1) rfl ?_; intro A5 c5 wE hown hgrow hat; have HE := Lib.hid hown; have BE := Lib.hid ((below_alloc B3.out _).grown hgrow (by simp; omega) (fun q hq => (own_base OW.out q hq).1)); clear hown hgrow hat)
        go_roundg (gk - 1)
        case measure => omega
        case rel =>
          refine ⟨k + 1, by omega, by go_num, A5, c5, rfl, ?_, BE⟩
          show World.ownsRow _ _ _ _ _ _ _
          rw [HTS.out, ← HTX.out]
          exact HE.out
      · have HE : Hid (str (Lib.itoa x.lo) ++ ((⟨#[45]⟩ : ByteArray) ++ str (Lib.itoa x.hi)) = str (spanTxt x)) := by show _ = _; unfold spanTxt; rw [if_neg hne, str_dash, str_append]
        have d1 : (x.hi != x.lo) = true := by simp [hne]
        have d2 : decide (¬ x.hi = x.lo) = true := by simp [hne]
        clear hne
        go_wp2_with fail
        refine (iItoa_c x.hi w1 hx.2 (HT.out.below (below_then HB.out B1.out))).mono ?_
        rintro e w3 ⟨rfl, b3⟩
        have B3 := Lib.hid (below_then HB.out (below_then B1.out b3))
        have B4 := Lib.hid (below_then B1.out b3)
        clear n0 n1 b3
        go_upto_region 10 with fail
        rw [HE.out]
        obtain ⟨tx, htx⟩ : ∃ t, t = str (spanTxt x) := ⟨_, rfl⟩
        rw [← htx]
        have HTX := Lib.hid htx
        clear htx
        have hn1 : k + 1 ≤ maxLen := by unfold maxLen; omega
        have hn2 : (k + 1) * 16 ≤ 140737488355328 := by omega
        have hn3 := B3.out.size
        have OW := Lib.hid (own_below HO.out (B4.out))
        go_wp2_with (at_builtin; refine wpList_append_row (by rfl) (.tmp 30) (.tmp 32) 63 (by rfl) w.heap.size TStr iS (.string ⟨#[]⟩) 1 16 Tryd.underlying63 hiS hzS0 hzS1 hzS2 rfl (by decide) (.slice A2 k c2) k (txts (xs.take k)) (by rfl) (own_below OW.out (below_alloc (Below.refl _ _) _)) (some ⟨w3.heap.size, 0, none⟩) 1 1 [.string tx] (by rfl) (.inr ⟨⟨w3.heap.size, 0, none⟩, rfl, Nat.zero_le _, new_cells w3 [.string tx] TStr⟩) rfl (fun u hu => by rw [List.mem_singleton.1 hu]; rfl) hn1 hn2 (by simp; omega) _ rfl (k + 1) rfl ?_; intro A5 c5 wE hown hgrow hat; have HE := Lib.hid hown; have BE := Lib.hid ((below_alloc B3.out _).grown hgrow (by simp; omega) (fun q hq => (own_base OW.out q hq).1)); clear hown hgrow hat)
        go_roundg (gk - 1)
        case measure => omega
        case rel =>
          refine ⟨k + 1, by omega, by go_num, A5, c5, rfl, ?_, BE⟩
          show World.ownsRow _ _ _ _ _ _ _
          rw [HTS.out, ← HTX.out]
          exact HE.out
    · have hkl : k = xs.length := by omega
      subst hkl
      rw [List.take_length] at HO
      obtain ⟨g, cc, e3, hg3, hc3⟩ := own_form HO.out (by have := HX0.out; omega)
      injection e3 with e31 e32 e33
      subst e31 e33
      have E : Hid (setTxt xs = accTxt xs) := by show _ = _; rw [setTxt, if_neg HX0.out]
      go_wp2_with fail
      refine (iJoin_c xs g c2 wr HO.out H64.out hn hc3).mono ?_
      rintro e w2 ⟨rfl, b2⟩
      go_wp2_with fail
      go_ret
      exact ⟨by rw [E.out]; rfl, below_then HB.out b2⟩

end Go.Proofs.YtlchipjckgaclaaDoor
