/- Texts joined for the claims: Tt Ts Tq Y7. -/
import Derived.Test.YtfeidjjabjejiaaGreatDoorG10
import Derived.Test.YtfeidjjabjejiaaGreatDoorG4
import Derived.Deep.RegionHeld3
/- Patterns as texts: writeRex of the program. -/
namespace Go.Proofs.YtfeidjjabjejiaaGreatDoor
set_option linter.unusedSimpArgs false
set_option linter.unusedVariables false
set_option maxRecDepth 100000
open Go.RowKit

theorem manyLT : ∀ (ks : List Rex) (j : Nat) {r : Rex}, ks[j]? = some r → manyL (ks.take j) + r.many ≤ manyL ks
  | [], j, r, h => by simp at h
  | x :: ks, 0, r, h => by
    simp at h
    subst h
    simp [manyL]
  | x :: ks, j + 1, r, h => by
    have := manyLT ks j (r := r) (by simpa using h)
    rw [List.take_succ_cons, manyL, manyL]
    omega
def WriteOk (r : Rex) : Prop := ∀ (d : Nat) (v1 v2 : Value) (w0 w : World) (lo : Nat) (A2 : Option Addr) (n2 c2 : Nat) (ws : List (List UInt8)), formed d r = true → RexV w0 lo r (.int .i64 r.kind) v1 v2 → Below w0.heap.size w0 w →
  w.ownsRow w0.heap.size TStr 1 (.slice A2 n2 c2) n2 (wcells ws) → n2 = ws.length → r.size ≤ 1048576 → n2 + 2 * r.many ≤ 4194304 → Pow10 w0 →
  Calls Tryz.prog 125 #[.agg #[.int .i64 r.kind, v1, v2], .slice A2 n2 c2] w fun e w' => ∃ A3 n3 c3, e = .returned (.slice A3 n3 c3) ∧ n3 = (ws ++ wordsOf r).length ∧ w'.ownsRow w0.heap.size TStr 1 (.slice A3 n3 c3) n3 (wcells (ws ++ wordsOf r)) ∧ Below w0.heap.size w0 w'

set_option maxHeartbeats 2000000 in
theorem iWrite_c (r : Rex) : WriteOk r := by
  refine Rex.ind (p := WriteOk) (fun k s ks ih => ?_) r
  intro d v1 v2 w0 w lo A2 n2 c2 ws hd h hbel ho hn hsz hmn hp
  obtain ⟨A, c, K, ck, _, rfl, rfl, hs, hk⟩ := h.parts
  dsimp only [Rex.kind, Rex.set, Rex.kids] at hs hk ⊢
  rw [Rex.size] at hsz
  rw [Rex.many] at hmn
  clear h
  obtain ⟨hkk, _, hok, _, hfk⟩ := formed_node hd
  have HFK : Hid (∀ r, r ∈ ks → formed (d - 1) r = true) := hfk
  have HPW := Lib.hid hp
  have HN0 := Lib.hid hn
  have hkind : k = 1 ∨ k = 2 ∨ k = 3 ∨ k = 4 ∨ k = 5 ∨ k = 6 ∨ k = 7 := by
    rcases kidsOf_cases hkk with ⟨e, _⟩ | ⟨e, _⟩ | ⟨e, _⟩ <;> omega
  have H64 := Lib.hid (ok_64 hok)
  obtain ⟨iS, hiS, hzS0, hzS1, hzS2⟩ := info_parts infoStr
  obtain ⟨wa, hwa⟩ : ∃ x, x = w.alloc (.cells #[.int .i64 k, .slice A s.length c, .slice K ks.length ck] TRx) := ⟨_, rfl⟩
  have hb : Below w.heap.size w wa := by rw [hwa]; exact below_alloc (Below.refl _ _) _
  have m0 : Blk wa w.heap.size #[.int .i64 k, .slice A s.length c, .slice K ks.length ck] TRx := by rw [hwa]; exact blk_new w _ _
  replace hwa := hwa.symm
  have HK := Lib.hid hk
  have HS := Lib.hid hs
  have HBa := Lib.hid (below_then hbel hb)
  have HOa := Lib.hid ho
  have HOaa := Lib.hid (own_below ho hb)
  have hzw := hbel.size
  have M0 := Lib.hid m0
  have n0 : wa.cell? ⟨w.heap.size, 0, none⟩ = some (.int .i64 k) := by rw [m0.cell]; rfl
  clear hs hk ho hd hok hfk hp hkk hbel hn
  go_enter Tryz.func125, Tryz.ntmps125
  go_wp2_with fail
  clear hwa
  refine (iRexWord_c k wa hkind).mono ?_
  rintro e w1 ⟨rfl, b1⟩
  have B1 := Lib.hid (below_then HBa.out b1)
  have bw1 := Lib.hid (below_then hb b1)
  replace M0 := Lib.hid (M0.out.below b1)
  obtain ⟨tx, htx⟩ : ∃ t, t = str (kw k) := ⟨_, rfl⟩
  rw [← htx]
  have HTX := Lib.hid htx
  clear htx n0 b1 m0 hb
  have hz1 := M0.out.lt
  have HNE : Hid (∀ q, (Value.slice A2 n2 c2).ownBlock = some q → q ≠ w.heap.size) := fun q hq e => by have := (own_base HOa.out q hq).2; omega
  have OWN0 := HOa
  have BLW := bw1
  by_cases h1 : k = 1
  · subst h1
    obtain ⟨yss, hyss⟩ : ∃ y, y = ws ++ [kw 1] ++ [setTxt s] := ⟨_, rfl⟩
    have HYS := Lib.hid hyss
    have hyl : Hid (yss.length = n2 + 2) := by show _ = _; have := HN0.out; rw [hyss]; simp; omega
    have HY : Hid (yss ++ wordsL ks = ws ++ wordsOf (.mk 1 s ks)) := by show _ = _; rw [hyss, wordsOf, if_pos rfl]; simp
    clear hyss
    have hn1 : n2 + 1 ≤ maxLen := by unfold maxLen; omega
    have hn2 : (n2 + 1) * 16 ≤ 140737488355328 := by omega
    have hn3 := B1.out.size
    have OW := Lib.hid (own_below OWN0.out BLW.out)
    go_wp2_with (at_builtin; refine wpList_append_row (by rfl) (.tmp 7) (.tmp 11) 80 (by rfl) w0.heap.size TStr iS (.string ⟨#[]⟩) 1 16 Tryz.underlying80 hiS hzS0 hzS1 hzS2 rfl (by decide) (.slice A2 n2 c2) n2 (wcells ws) (by rfl) (own_below OW.out (below_alloc (Below.refl _ _) _)) (some ⟨w1.heap.size, 0, none⟩) 1 1 [.string tx] (by rfl) (.inr ⟨⟨w1.heap.size, 0, none⟩, rfl, Nat.zero_le _, new_cells w1 [.string tx] TStr⟩) rfl (fun u hu => by rw [List.mem_singleton.1 hu]; rfl) hn1 hn2 (by simp; omega) _ rfl (n2 + 1) rfl ?_; intro AE cE wE hown hgrow hat; have HE := Lib.hid hown; have BE := Lib.hid ((below_alloc B1.out _).grown hgrow (by simp; omega) (fun q hq => (own_base OW.out q hq).1)); have ZB := Lib.hid ((M0.out.alloc (.cells #[.string tx] TStr)).grown hgrow HNE.out); have HAT := Lib.hid hat; have n0 : wE.cell? ⟨w.heap.size, 0, none⟩ = some (.int .i64 (1)) := (by rw [ZB.out.cell]; rfl); have n1 : wE.cell? ⟨w.heap.size, 1, none⟩ = some (.slice A s.length c) := (by rw [ZB.out.cell]; rfl); have n2' : wE.cell? ⟨w.heap.size, 2, none⟩ = some (.slice K ks.length ck) := (by rw [ZB.out.cell]; rfl); clear hown hgrow hat)
    have HNE2 : Hid (∀ q, (Value.slice AE (n2 + 1) cE).ownBlock = some q → q ≠ w.heap.size) := fun q hq e => by
      rcases HAT.out q (mem_vblk.2 hq) with h1 | h1
      · have := (own_base HOa.out q (mem_vblk.1 h1)).2; omega
      · simp at h1; omega
    have HE1 : Hid (wE.ownsRow w0.heap.size TStr 1 (.slice AE (n2 + 1) cE) (n2 + 1) (wcells (ws ++ [kw 1]))) := by show World.ownsRow _ _ _ _ _ _ _; rw [wcells_snoc, ← HTX.out]; exact HE.out
    clear HNE HAT HE OW hn1 hn2 hn3 HOaa HBa B1 OWN0 BLW
    refine (iSetText_c A c s wE (HS.out.below BE.out) H64.out (by omega) (HPW.out.below BE.out)).mono ?_
    rintro e w4 ⟨rfl, b4⟩
    have B4 := Lib.hid (below_then BE.out b4)
    have b4h := Lib.hid b4
    replace M0 := Lib.hid (ZB.out.below b4)
    clear n0 n1 n2' ZB BE HTX b4
    obtain ⟨tx2, htx⟩ : ∃ t, t = str (setTxt s) := ⟨_, rfl⟩
    rw [← htx]
    have HTX := Lib.hid htx
    clear htx
    have HNE := HNE2
    clear HNE2
    obtain ⟨tx, htx⟩ : ∃ t, t = tx2 := ⟨_, rfl⟩
    rw [← htx]
    replace htx := Lib.hid htx
    have OWN0 := HE1
    have BLW := b4h
    have hn1 : (n2 + 1) + 1 ≤ maxLen := by unfold maxLen; omega
    have hn2 : ((n2 + 1) + 1) * 16 ≤ 140737488355328 := by omega
    have hn3 := B4.out.size
    have OW := Lib.hid (own_below OWN0.out BLW.out)
    go_wp2_with (at_builtin; refine wpList_append_row (by rfl) (.tmp 16) (.tmp 20) 80 (by rfl) w0.heap.size TStr iS (.string ⟨#[]⟩) 1 16 Tryz.underlying80 hiS hzS0 hzS1 hzS2 rfl (by decide) (.slice AE (n2 + 1) cE) (n2 + 1) (wcells (ws ++ [kw 1])) (by rfl) (own_below OW.out (below_alloc (Below.refl _ _) _)) (some ⟨w4.heap.size, 0, none⟩) 1 1 [.string tx] (by rfl) (.inr ⟨⟨w4.heap.size, 0, none⟩, rfl, Nat.zero_le _, new_cells w4 [.string tx] TStr⟩) rfl (fun u hu => by rw [List.mem_singleton.1 hu]; rfl) hn1 hn2 (by simp; omega) _ rfl ((n2 + 1) + 1) rfl ?_; intro AE cE wE hown hgrow hat; have HE := Lib.hid hown; have BE := Lib.hid ((below_alloc B4.out _).grown hgrow (by simp; omega) (fun q hq => (own_base OW.out q hq).1)); have ZB := Lib.hid ((M0.out.alloc (.cells #[.string tx] TStr)).grown hgrow HNE.out); have HAT := Lib.hid hat; have n0 : wE.cell? ⟨w.heap.size, 0, none⟩ = some (.int .i64 (1)) := (by rw [ZB.out.cell]; rfl); have n1 : wE.cell? ⟨w.heap.size, 1, none⟩ = some (.slice A s.length c) := (by rw [ZB.out.cell]; rfl); have n2' : wE.cell? ⟨w.heap.size, 2, none⟩ = some (.slice K ks.length ck) := (by rw [ZB.out.cell]; rfl); clear hown hgrow hat)
    have HO : Hid (wE.ownsRow w0.heap.size TStr 1 (.slice AE (n2 + 1 + 1) cE) (n2 + 1 + 1) (wcells yss)) := by show World.ownsRow _ _ _ _ _ _ _; rw [HYS.out, wcells_snoc, ← HTX.out, ← htx.out]; exact HE.out
    have HB := BE
    have HN : Hid (n2 + 1 + 1 = yss.length) := hyl.out.symm
    clear n0 n1 n2' HE BE ZB HAT OW hn1 hn2 hn3 HE1 HNE M0 OWN0 BLW
    go_loopg [1, 25] (ks.length) (fun n v i wr => ∃ j : Nat, j + n = ks.length ∧ i = .int .i64 j ∧ ∃ (A3 : Option Addr) (n3 c3 : Nat), v = .slice A3 n3 c3 ∧ Hid (n3 = (yss ++ wordsL (ks.take j)).length) ∧ Hid (wr.ownsRow w0.heap.size TStr 1 (.slice A3 n3 c3) n3 (wcells (yss ++ wordsL (ks.take j)))) ∧ Hid (Below w0.heap.size w0 wr))
    case atStart => exact ⟨0, by omega, rfl, _, _, _, rfl, by show _ = _; rw [HN.out]; simp [wordsL], by show World.ownsRow _ _ _ _ _ _ _; simpa [wordsL] using HO.out, HB⟩
    case round =>
      clear HO HB HN
      obtain ⟨j, hj, rfl, A3, n3, c3, rfl, HN, HO, HB⟩ := hrel
      by_cases hlt : j < ks.length
      · obtain ⟨a, r, x1, x2, rfl, HX, HD, HV, e0, e1, e2⟩ := HK.out.at_ j hlt
        obtain ⟨A2', q2, K2, d2, _, rfl, rfl, _⟩ := HV.out.parts
        have c0 := (HB.out.cell (World.block_lt_of_cell? w0 _ e0)).trans e0
        have c1 := (HB.out.cell (World.block_lt_of_cell? w0 _ e1)).trans e1
        have c2 := (HB.out.cell (World.block_lt_of_cell? w0 _ e2)).trans e2
        have hmem := List.mem_of_getElem? HX.out
        have hks := sizeL_kid hmem
        have hmt := manyLT ks j HX.out
        have hwl := wordsL_many (ks.take j)
        have HNL : Hid (n3 = yss.length + (wordsL (ks.take j)).length) := by show _ = _; rw [HN.out, List.length_append]
        have i0 : (0 : Int) ≤ (j : Int) := by omega
        have i1 : (j : Int) < (ks.length : Int) := by omega
        clear e0 e1 e2
        go_wp2_with fail
        refine (ih r hmem (d - 1) _ _ w0 _ lo A3 n3 c3 _ (HFK.out r hmem) HV.out (below_alloc HB.out _) (own_below HO.out (below_alloc (Below.refl _ _) _)) HN.out (by omega) (by have := HNL.out; have := hyl.out; omega) HPW.out).mono ?_
        rintro e w5 ⟨A4, n4, c4, rfl, h4, o4, b4⟩
        have HT := Lib.hid (wordsL_take HX.out)
        have HN4 : Hid (n4 = (yss ++ wordsL (ks.take (j + 1))).length) := by show _ = _; rw [h4, HT.out, ← List.append_assoc]
        have HO4 : Hid (w5.ownsRow w0.heap.size TStr 1 (.slice A4 n4 c4) n4 (wcells (yss ++ wordsL (ks.take (j + 1))))) := by show World.ownsRow _ _ _ _ _ _ _; rw [HT.out, ← List.append_assoc]; exact o4
        have HB4 := Lib.hid b4
        clear c0 c1 c2 h4 o4 b4 HNL
        go_wp2_with fail
        go_roundg (gk - 1)
        case measure => omega
        case rel => exact ⟨j + 1, by omega, by go_num, A4, n4, c4, rfl, HN4, HO4, HB4⟩
      · have hj' : j = ks.length := by omega
        subst hj'
        rw [List.take_length] at HO HN
        go_wp2_with fail
        go_ret
        refine ⟨A3, n3, c3, rfl, ?_, ?_, HB.out⟩
        · rw [HN.out, HY.out]
        · rw [← HY.out]; exact HO.out
  · have d0 : (k == 1) = false := by simp [h1]
    obtain ⟨yss, hyss⟩ : ∃ y, y = ws ++ [kw k] := ⟨_, rfl⟩
    have HYS := Lib.hid hyss
    have hyl : Hid (yss.length = n2 + 1) := by show _ = _; have := HN0.out; rw [hyss]; simp; omega
    have HY : Hid (yss ++ wordsL ks = ws ++ wordsOf (.mk k s ks)) := by show _ = _; rw [hyss, wordsOf, if_neg h1]; simp
    clear hyss h1
    have hn1 : n2 + 1 ≤ maxLen := by unfold maxLen; omega
    have hn2 : (n2 + 1) * 16 ≤ 140737488355328 := by omega
    have hn3 := B1.out.size
    have OW := Lib.hid (own_below OWN0.out BLW.out)
    go_wp2_with (at_builtin; refine wpList_append_row (by rfl) (.tmp 7) (.tmp 11) 80 (by rfl) w0.heap.size TStr iS (.string ⟨#[]⟩) 1 16 Tryz.underlying80 hiS hzS0 hzS1 hzS2 rfl (by decide) (.slice A2 n2 c2) n2 (wcells ws) (by rfl) (own_below OW.out (below_alloc (Below.refl _ _) _)) (some ⟨w1.heap.size, 0, none⟩) 1 1 [.string tx] (by rfl) (.inr ⟨⟨w1.heap.size, 0, none⟩, rfl, Nat.zero_le _, new_cells w1 [.string tx] TStr⟩) rfl (fun u hu => by rw [List.mem_singleton.1 hu]; rfl) hn1 hn2 (by simp; omega) _ rfl (n2 + 1) rfl ?_; intro AE cE wE hown hgrow hat; have HE := Lib.hid hown; have BE := Lib.hid ((below_alloc B1.out _).grown hgrow (by simp; omega) (fun q hq => (own_base OW.out q hq).1)); have ZB := Lib.hid ((M0.out.alloc (.cells #[.string tx] TStr)).grown hgrow HNE.out); have HAT := Lib.hid hat; have n0 : wE.cell? ⟨w.heap.size, 0, none⟩ = some (.int .i64 (k)) := (by rw [ZB.out.cell]; rfl); have n1 : wE.cell? ⟨w.heap.size, 1, none⟩ = some (.slice A s.length c) := (by rw [ZB.out.cell]; rfl); have n2' : wE.cell? ⟨w.heap.size, 2, none⟩ = some (.slice K ks.length ck) := (by rw [ZB.out.cell]; rfl); clear hown hgrow hat)
    have HO : Hid (wE.ownsRow w0.heap.size TStr 1 (.slice AE (n2 + 1) cE) (n2 + 1) (wcells yss)) := by show World.ownsRow _ _ _ _ _ _ _; rw [HYS.out, wcells_snoc, ← HTX.out]; exact HE.out
    have HB := BE
    have HN : Hid (n2 + 1 = yss.length) := hyl.out.symm
    clear n0 n1 n2' HE BE ZB M0 HNE HAT OW hn1 hn2 hn3 HOaa HBa B1 OWN0 BLW
    go_loopg [1, 25] (ks.length) (fun n v i wr => ∃ j : Nat, j + n = ks.length ∧ i = .int .i64 j ∧ ∃ (A3 : Option Addr) (n3 c3 : Nat), v = .slice A3 n3 c3 ∧ Hid (n3 = (yss ++ wordsL (ks.take j)).length) ∧ Hid (wr.ownsRow w0.heap.size TStr 1 (.slice A3 n3 c3) n3 (wcells (yss ++ wordsL (ks.take j)))) ∧ Hid (Below w0.heap.size w0 wr))
    case atStart => exact ⟨0, by omega, rfl, _, _, _, rfl, by show _ = _; rw [HN.out]; simp [wordsL], by show World.ownsRow _ _ _ _ _ _ _; simpa [wordsL] using HO.out, HB⟩
    case round =>
      clear HO HB HN
      obtain ⟨j, hj, rfl, A3, n3, c3, rfl, HN, HO, HB⟩ := hrel
      by_cases hlt : j < ks.length
      · obtain ⟨a, r, x1, x2, rfl, HX, HD, HV, e0, e1, e2⟩ := HK.out.at_ j hlt
        obtain ⟨A2', q2, K2, d2, _, rfl, rfl, _⟩ := HV.out.parts
        have c0 := (HB.out.cell (World.block_lt_of_cell? w0 _ e0)).trans e0
        have c1 := (HB.out.cell (World.block_lt_of_cell? w0 _ e1)).trans e1
        have c2 := (HB.out.cell (World.block_lt_of_cell? w0 _ e2)).trans e2
        have hmem := List.mem_of_getElem? HX.out
        have hks := sizeL_kid hmem
        have hmt := manyLT ks j HX.out
        have hwl := wordsL_many (ks.take j)
        have HNL : Hid (n3 = yss.length + (wordsL (ks.take j)).length) := by show _ = _; rw [HN.out, List.length_append]
        have i0 : (0 : Int) ≤ (j : Int) := by omega
        have i1 : (j : Int) < (ks.length : Int) := by omega
        clear e0 e1 e2
        go_wp2_with fail
        refine (ih r hmem (d - 1) _ _ w0 _ lo A3 n3 c3 _ (HFK.out r hmem) HV.out (below_alloc HB.out _) (own_below HO.out (below_alloc (Below.refl _ _) _)) HN.out (by omega) (by have := HNL.out; have := hyl.out; omega) HPW.out).mono ?_
        rintro e w5 ⟨A4, n4, c4, rfl, h4, o4, b4⟩
        have HT := Lib.hid (wordsL_take HX.out)
        have HN4 : Hid (n4 = (yss ++ wordsL (ks.take (j + 1))).length) := by show _ = _; rw [h4, HT.out, ← List.append_assoc]
        have HO4 : Hid (w5.ownsRow w0.heap.size TStr 1 (.slice A4 n4 c4) n4 (wcells (yss ++ wordsL (ks.take (j + 1))))) := by show World.ownsRow _ _ _ _ _ _ _; rw [HT.out, ← List.append_assoc]; exact o4
        have HB4 := Lib.hid b4
        clear c0 c1 c2 h4 o4 b4 HNL
        go_wp2_with fail
        go_roundg (gk - 1)
        case measure => omega
        case rel => exact ⟨j + 1, by omega, by go_num, A4, n4, c4, rfl, HN4, HO4, HB4⟩
      · have hj' : j = ks.length := by omega
        subst hj'
        rw [List.take_length] at HO HN
        go_wp2_with fail
        go_ret
        refine ⟨A3, n3, c3, rfl, ?_, ?_, HB.out⟩
        · rw [HN.out, HY.out]
        · rw [← HY.out]; exact HO.out

end Go.Proofs.YtfeidjjabjejiaaGreatDoor

/- Patterns as texts: RexText of the program; bounds. -/
namespace Go.Proofs.YtfeidjjabjejiaaGreatDoor
set_option linter.unusedSimpArgs false
set_option linter.unusedVariables false
set_option maxRecDepth 100000
open Go.RowKit

theorem set_len {s : List Sp} (h : setOk s = true) : (setTxt s).length ≤ 44 * s.length + 2 := by
  unfold setTxt
  split
  · simp
  · have := acc_len s (ok_64 h) s.length (Nat.le_refl _)
    rw [List.take_length] at this
    omega
theorem kid_len : ∀ ks : List Rex, (∀ r ∈ ks, (rexTxt r).length ≤ 50 * r.size + 10) → (kidTxts ks).length ≤ 11 * ks.length + 50 * sizeL ks
  | [], _ => by simp [kidTxts, sizeL]
  | r :: ks, h => by
    have h1 := kid_len ks fun x hx => h x (by simp [hx])
    have h2 := h r (by simp)
    rw [kidTxts, sizeL, List.length_cons, List.length_append, List.length_cons]
    omega
theorem txt_len (r : Rex) : ∀ d, formed d r = true → (rexTxt r).length ≤ 50 * r.size + 10 := by
  refine Rex.ind (p := fun r => ∀ d, formed d r = true → (rexTxt r).length ≤ 50 * r.size + 10) (fun k s ks ih => ?_) r
  intro d hd
  obtain ⟨hkk, _, hok, _, hfk⟩ := formed_node hd
  by_cases h1 : k = 1
  · subst h1
    have hk0 : ks = [] := by
      rcases kidsOf_cases hkk with ⟨_, e⟩ | ⟨e, _⟩ | ⟨e, _⟩
      · exact List.length_eq_zero_iff.1 e
      · omega
      · omega
    subst hk0
    have h2 := set_len hok
    have h3 := kw_len 1
    rw [rexTxt_set, Rex.size, List.length_append, List.length_append, List.length_singleton]
    omega
  · have h2 := kid_len ks fun r hr => ih r hr (d - 1) (hfk r hr)
    have h3 := kw_len k
    rw [rexTxt_kids h1, Rex.size, List.length_append]
    omega
theorem kidTxts_app : ∀ a b : List Rex, kidTxts (a ++ b) = kidTxts a ++ kidTxts b
  | [], b => rfl
  | r :: a, b => by rw [List.cons_append, kidTxts, kidTxts, kidTxts_app a b]; simp
theorem kidTxts_le (ks : List Rex) (j : Nat) : (kidTxts (ks.take j)).length ≤ (kidTxts ks).length := by
  have : kidTxts ks = kidTxts (ks.take j) ++ kidTxts (ks.drop j) := by rw [← kidTxts_app, List.take_append_drop]
  rw [this, List.length_append]
  omega
theorem iJoinW_c (ws : List (List UInt8)) (g c : Nat) (w : World) {base : Nat} (h : w.ownsRow base TStr 1 (.slice (some ⟨g, 0, none⟩) ws.length c) ws.length (wcells ws)) (hn : ws.length ≤ 4194304) (hc : ws.length ≤ c) (hlen : (Lib.join ws [32]).length ≤ 140737488355328) :
    Calls Tryz.prog 124 #[.slice (some ⟨g, 0, none⟩) ws.length c, .string ⟨#[32]⟩] w fun e w' => e = .returned (.string (str (Lib.join ws [32]))) ∧ Below w.heap.size w w' := by
  have hl : (ws.map str).length = ws.length := List.length_map _
  have e : ((ws.map str).map (·.data.toList)) = ws := by
    rw [List.map_map]
    exact (List.map_congr_left fun x _ => rfl).trans (List.map_id _)
  have hj := Tryz.strings_Join g 0 c (ws.map str) ⟨#[32]⟩ w (fun j x hj => by
    rw [Nat.zero_add, h.cellAt j (by have := (List.getElem?_eq_some_iff.1 hj).1; rw [hl] at this; omega)]
    rw [List.getElem?_map, Option.map_eq_some_iff] at hj
    obtain ⟨y, hy, rfl⟩ := hj
    unfold wcells
    rw [List.getElem?_map, hy]
    rfl) (own_base h g rfl).2 (by rw [hl]; omega) (by rw [hl]; exact hc) (by rw [e]; exact hlen)
  rw [hl, e] at hj
  exact hj
theorem words_pos (r : Rex) : 0 < (wordsOf r).length := by
  obtain ⟨k, s, ks⟩ := r
  rw [wordsOf]
  simp
theorem many_le_size (r : Rex) : r.many ≤ r.size + 1 := by
  refine Rex.rec (motive_1 := fun r => r.many ≤ r.size + 1) (motive_2 := fun l => manyL l ≤ sizeL l + l.length) ?_ ?_ ?_ r
  · intro k s ks ih
    rw [Rex.many, Rex.size]
    omega
  · simp [manyL, sizeL]
  · intro x l h1 h2
    rw [manyL, sizeL, List.length_cons]
    omega
def rexText (r : Rex) : List UInt8 := if rexOk r then rexTxt r else []

set_option maxHeartbeats 1000000 in
theorem iTextOf_c (r : Rex) (v1 v2 : Value) (w : World) (lo : Nat) (h : RexV w lo r (.int .i64 r.kind) v1 v2) (hsz : r.size ≤ 1048576) (d : Nat) (hf : formed d r = true) (hp : Pow10 w) :
    Calls Tryz.prog 82 #[.agg #[.int .i64 r.kind, v1, v2]] w fun e w' => e = .returned (.string (str (rexTxt r))) ∧ Below w.heap.size w w' := by
  have hm := many_le_size r
  obtain ⟨A, c, K, ck, _, rfl, rfl, _, _⟩ := h.parts
  obtain ⟨wa, hwa⟩ : ∃ x, x = w.alloc (.cells #[.int .i64 r.kind, .slice A r.set.length c, .slice K r.kids.length ck] TRx) := ⟨_, rfl⟩
  have hb : Below w.heap.size w wa := by rw [hwa]; exact below_alloc (Below.refl _ _) _
  have m0 : Blk wa w.heap.size #[.int .i64 r.kind, .slice A r.set.length c, .slice K r.kids.length ck] TRx := by rw [hwa]; exact blk_new w _ _
  have HV := Lib.hid (h.under hb)
  have HB := Lib.hid hb
  have M0 := Lib.hid m0
  clear m0 h
  replace hwa := hwa.symm
  have n0 : wa.cell? ⟨w.heap.size, 0, none⟩ = some (.int .i64 r.kind) := by rw [M0.out.cell]; rfl
  have n0' : wa.cell? ⟨w.heap.size, 1, none⟩ = some (.slice A r.set.length c) := by rw [M0.out.cell]; rfl
  have n0'' : wa.cell? ⟨w.heap.size, 2, none⟩ = some (.slice K r.kids.length ck) := by rw [M0.out.cell]; rfl
  have HPA := Lib.hid (hp.below hb)
  have HW := Lib.hid (words_many r)
  have HL := Lib.hid (txt_len r d hf)
  clear hp hb
  go_enter Tryz.func82, Tryz.ntmps82
  go_wp2_with fail
  clear hwa
  refine (iWrite_c r d _ _ wa wa lo none 0 0 [] hf HV.out (Below.refl _ _) (World.ownsRow_nil _ _ _ _) rfl hsz (by omega) HPA.out).mono ?_
  rintro e w1 ⟨A3, n3, c3, rfl, h3, o3, b3⟩
  rw [List.nil_append] at h3 o3
  subst h3
  obtain ⟨g, cc, e3, hg3, hc3⟩ := own_form o3 (words_pos r)
  injection e3 with e31 e32 e33
  subst e31 e33
  have HO := Lib.hid o3
  have HB3 := Lib.hid b3
  clear n0 n0' n0'' o3 b3
  go_wp2_with fail
  refine (iJoinW_c (wordsOf r) g c3 w1 HO.out (by have := HW.out; omega) hc3 (by have := HL.out; unfold rexTxt at this; omega)).mono ?_
  rintro e w2 ⟨rfl, b2⟩
  go_wp2_with fail
  go_ret
  exact ⟨rfl, below_then HB.out (below_then HB3.out b2)⟩
set_option maxHeartbeats 1000000 in
theorem iRexText_c (r : Rex) (v1 v2 : Value) (w : World) (lo : Nat) (h : RexV w lo r (.int .i64 r.kind) v1 v2) (hsz : r.size ≤ 1048576) (hp : Pow10 w) :
    Calls Tryz.prog 31 #[.agg #[.int .i64 r.kind, v1, v2]] w fun e w' => e = .returned (.string (str (rexText r))) ∧ Below w.heap.size w w' := by
  obtain ⟨A, c, K, ck, _, rfl, rfl, _, _⟩ := h.parts
  obtain ⟨wa, hwa⟩ : ∃ x, x = w.alloc (.cells #[.int .i64 r.kind, .slice A r.set.length c, .slice K r.kids.length ck] TRx) := ⟨_, rfl⟩
  have hb : Below w.heap.size w wa := by rw [hwa]; exact below_alloc (Below.refl _ _) _
  have m0 : Blk wa w.heap.size #[.int .i64 r.kind, .slice A r.set.length c, .slice K r.kids.length ck] TRx := by rw [hwa]; exact blk_new w _ _
  have HV := Lib.hid (h.under hb)
  have HB := Lib.hid hb
  have M0 := Lib.hid m0
  clear m0 h
  replace hwa := hwa.symm
  have n0 : wa.cell? ⟨w.heap.size, 0, none⟩ = some (.int .i64 r.kind) := by rw [M0.out.cell]; rfl
  have n0' : wa.cell? ⟨w.heap.size, 1, none⟩ = some (.slice A r.set.length c) := by rw [M0.out.cell]; rfl
  have n0'' : wa.cell? ⟨w.heap.size, 2, none⟩ = some (.slice K r.kids.length ck) := by rw [M0.out.cell]; rfl
  have HPA := Lib.hid (hp.below hb)
  clear hp hb
  go_enter Tryz.func31, Tryz.ntmps31
  go_wp2_with fail
  clear hwa
  refine (iRexOk_c _ _ _ _ _ HV.out hsz).mono ?_
  rintro e w1 ⟨rfl, b1⟩
  replace M0 := Lib.hid (M0.out.below b1)
  have H1 := Lib.hid b1
  clear n0 n0' n0'' b1
  have n0 : w1.cell? ⟨w.heap.size, 0, none⟩ = some (.int .i64 r.kind) := by rw [M0.out.cell]; rfl
  have n0' : w1.cell? ⟨w.heap.size, 1, none⟩ = some (.slice A r.set.length c) := by rw [M0.out.cell]; rfl
  have n0'' : w1.cell? ⟨w.heap.size, 2, none⟩ = some (.slice K r.kids.length ck) := by rw [M0.out.cell]; rfl
  by_cases hf : rexOk r = true
  · have HF := Lib.hid hf
    rw [hf]
    clear hf
    go_wp2_with fail
    refine (iTextOf_c r _ _ w1 lo (HV.out.under H1.out) hsz 8 (rexOk_formed HF.out) (HPA.out.below H1.out)).mono ?_
    rintro e w2 ⟨rfl, b2⟩
    clear n0 n0' n0''
    go_wp2_with fail
    go_ret
    exact ⟨by rw [rexText, if_pos HF.out]; rfl, below_then HB.out (below_then H1.out b2)⟩
  · have HF := Lib.hid hf
    rw [show rexOk r = false by simpa using hf]
    clear hf
    go_wp2_with fail
    go_ret
    exact ⟨by rw [rexText, if_neg HF.out]; rfl, below_then HB.out H1.out⟩

end Go.Proofs.YtfeidjjabjejiaaGreatDoor

/- Patterns as texts: RexText of the reference. -/
namespace Go.Proofs.YtfeidjjabjejiaaGreatDoor
set_option linter.unusedSimpArgs false
set_option linter.unusedVariables false
set_option maxRecDepth 100000
open Go.RowKit

def kwCells : Array Value := #[.string (str (kw 0)), .string (str (kw 1)), .string (str (kw 2)), .string (str (kw 3)), .string (str (kw 4)), .string (str (kw 5)), .string (str (kw 6)), .string (str (kw 7))]
theorem kwCells_get (n : Nat) (h : n < 8) : kwCells[n]? = some (.string (str (kw n))) := by
  match n, h with
  | 0, _ => rfl
  | 1, _ => rfl
  | 2, _ => rfl
  | 3, _ => rfl
  | 4, _ => rfl
  | 5, _ => rfl
  | 6, _ => rfl
  | 7, _ => rfl
set_option maxHeartbeats 1000000 in
theorem sWords_c (w : World) :
    Calls Tryz.prog 129 #[] w fun e w' => ∃ g, e = .returned (.slice (some ⟨g, 0, none⟩) 8 8) ∧ (∀ n : Nat, n < 8 → w'.cell? ⟨g, n, none⟩ = some (.string (str (kw n)))) ∧ Below w.heap.size w w' := by
  go_enter Tryz.func129, Tryz.ntmps129
  go_wp2_with fail
  go_ret
  refine ⟨w.heap.size, rfl, fun n hn => ?_, below_alloc (Below.refl _ _) _⟩
  have := (blk_new w kwCells TStr).cell n
  rw [kwCells_get n hn] at this
  exact this

def TextOk (r : Rex) : Prop := ∀ (d : Nat) (v1 v2 : Value) (w : World) (lo : Nat), formed d r = true → RexV w lo r (.int .i64 r.kind) v1 v2 → r.size ≤ 1048576 →
  Calls Tryz.prog 85 #[.agg #[.int .i64 r.kind, v1, v2]] w fun e w' => e = .returned (.string (str (rexTxt r))) ∧ Below w.heap.size w w'
set_option maxHeartbeats 2000000 in
theorem sText_c (r : Rex) : TextOk r := by
  refine Rex.ind (p := TextOk) (fun k s ks ih => ?_) r
  intro d v1 v2 w lo hd h hsz
  obtain ⟨A, c, K, ck, _, rfl, rfl, hs, hk⟩ := h.parts
  dsimp only [Rex.kind, Rex.set, Rex.kids] at hs hk ⊢
  rw [Rex.size] at hsz
  clear h
  obtain ⟨hkk, _, hok, _, hfk⟩ := formed_node hd
  have HFK : Hid (∀ r, r ∈ ks → formed (d - 1) r = true) := hfk
  have H64 := Lib.hid (ok_64 hok)
  have HKL := Lib.hid (kid_len ks fun r hr => txt_len r (d - 1) (hfk r hr))
  have hk0 : k = 1 → ks = [] := fun e => by
    rcases kidsOf_cases hkk with ⟨_, e⟩ | ⟨e, _⟩ | ⟨e, _⟩
    · exact List.length_eq_zero_iff.1 e
    · omega
    · omega
  obtain ⟨n, rfl, hn8⟩ : ∃ n : Nat, k = n ∧ n < 8 := by
    rcases kidsOf_cases hkk with ⟨e, _⟩ | ⟨e, _⟩ | ⟨e, _⟩ <;> exact ⟨k.toNat, by omega, by omega⟩
  have HK0 := Lib.hid hk0
  obtain ⟨wa, hwa⟩ : ∃ x, x = w.alloc (.cells #[.int .i64 (n : Int), .slice A s.length c, .slice K ks.length ck] TRx) := ⟨_, rfl⟩
  have hb : Below w.heap.size w wa := by rw [hwa]; exact below_alloc (Below.refl _ _) _
  have m0 : Blk wa w.heap.size #[.int .i64 (n : Int), .slice A s.length c, .slice K ks.length ck] TRx := by rw [hwa]; exact blk_new w _ _
  replace hwa := hwa.symm
  have HK := Lib.hid hk
  have HS := Lib.hid hs
  have HB := Lib.hid hb
  have M0 := Lib.hid m0
  have HC : Hid (∀ w', Below wa.heap.size wa w' → w'.cell? ⟨w.heap.size, 0, none⟩ = some (.int .i64 (n : Int))) := fun w' hb' => ((m0.below hb').cell 0).trans rfl
  clear hs hk hd hok hfk hkk hk0 hb m0
  have i0 : (0 : Int) ≤ (n : Int) := by omega
  have i1 : (n : Int) < 8 := by omega
  go_enter Tryz.func85, Tryz.ntmps85
  go_wp2_with fail
  clear hwa
  refine wp_region_held_drew (S := fun w' => w'.cell? ⟨w.heap.size, 0, none⟩ = some (.int .i64 (n : Int))) (by kernel_rfl) (HC.out _ (below_drew (Below.refl _ _))) (fun hHeld0 => ?_)
  refine wpAnyH_take (i := 1) (v := ?_) rfl (by kernel_rfl) (by kernel_rfl) (by kernel_rfl) (fun _ _ _ h => h) (Or.inl ⟨by rfl, ?_⟩) (by assumption) ?_
  rotate_left
  · (intro w hSw; (try dsimp only at hSw); go_simp; try with_reducible rfl)
  try simp only [Act.put, List.getElem_toArray, List.getElem_cons_zero, List.getElem_cons_succ, List.setIfInBounds_toArray, List.set_cons_zero, List.set_cons_succ]
  refine wpAnyH_take (i := 2) (v := ?_) rfl (by kernel_rfl) (by kernel_rfl) (by kernel_rfl) (fun _ _ _ h => h) (Or.inl ⟨by rfl, ?_⟩) (by assumption) ?_
  rotate_left
  · (intro w hSw; (try dsimp only at hSw); go_simp; try with_reducible rfl)
  try simp only [Act.put, List.getElem_toArray, List.getElem_cons_zero, List.getElem_cons_succ, List.setIfInBounds_toArray, List.set_cons_zero, List.set_cons_succ]
  refine wpAnyH_ready (rs := [0]) (by kernel_rfl) (by simp) ?_
  refine AllReadyH.cons (o := ⟨some 5, _, _, _, _, _⟩) rfl (fun K hK => ?_) AllReadyH.nil
  go_simp
  refine (sWords_c wa.drew).mono ?_
  rintro e w1 ⟨g, rfl, hc, b1⟩
  have B1 := Lib.hid (below_then (below_drew (Below.refl wa.heap.size wa)) b1)
  obtain ⟨kwn, hkwn⟩ : ∃ l, l = kw (n : Int) := ⟨_, rfl⟩
  have c0 := hc n hn8
  rw [← hkwn] at c0
  have HKW := Lib.hid hkwn
  have hkl : kwn.length ≤ 5 := by rw [hkwn]; exact kw_len _
  have hz0 := str_size kwn
  clear hc b1 hkwn
  (try go_wp2_with fail)
  refine hK.out _ _ (HC.out w1 B1.out) (fun hHeld1 => ?_)
  clear hK K hHeld0
  try simp only [Act.put, List.getElem_toArray, List.getElem_cons_zero, List.getElem_cons_succ, List.setIfInBounds_toArray, List.set_cons_zero, List.set_cons_succ]
  refine wpAnyH_take (i := 3) (v := ?_) rfl (by kernel_rfl) (by kernel_rfl) (by kernel_rfl) (fun _ _ _ h => h) (Or.inl ⟨by rfl, ?_⟩) (by assumption) ?_
  rotate_left
  · (intro w hSw; (try dsimp only at hSw); go_simp; try with_reducible rfl)
  try simp only [Act.put, List.getElem_toArray, List.getElem_cons_zero, List.getElem_cons_succ, List.setIfInBounds_toArray, List.set_cons_zero, List.set_cons_succ]
  refine wpAnyH_ready (rs := [4]) (by kernel_rfl) (by simp) ?_
  refine AllReadyH.cons (o := ⟨some 9, _, _, _, _, _⟩) rfl (fun K hK => ?_) AllReadyH.nil
  go_simp
  refine hK.out _ _ (HC.out w1 B1.out) (fun hHeld2 => ?_)
  clear hK K hHeld1
  try simp only [Act.put, List.getElem_toArray, List.getElem_cons_zero, List.getElem_cons_succ, List.setIfInBounds_toArray, List.set_cons_zero, List.set_cons_succ]
  refine wpAnyH_take (i := 5) (v := ?_) rfl (by kernel_rfl) (by kernel_rfl) (by kernel_rfl) (fun _ _ _ h => h) (Or.inl ⟨by rfl, ?_⟩) (by assumption) ?_
  rotate_left
  · (intro w hSw; (try dsimp only at hSw); go_simp; try with_reducible rfl)
  try simp only [Act.put, List.getElem_toArray, List.getElem_cons_zero, List.getElem_cons_succ, List.setIfInBounds_toArray, List.set_cons_zero, List.set_cons_succ]
  refine wpAnyH_done (by kernel_rfl) ?_ _
  replace M0 := Lib.hid (M0.out.below B1.out)
  replace HB := Lib.hid (below_then HB.out B1.out)
  clear c0 HC hHeld2 i0 i1 B1
  by_cases h1 : n = 1
  · have d0 : ((n : Int) == 1) = true := by simp [h1]
    have E : Hid (rexTxt (.mk (n : Int) s ks) = (kwn ++ [32]) ++ setTxt s) := by
      show _ = _
      have e1 : (n : Int) = 1 := by omega
      rw [HKW.out, HK0.out e1, e1]
      exact rexTxt_set s
    have n0 : w1.cell? ⟨w.heap.size, 0, none⟩ = some (.int .i64 (n : Int)) := by rw [M0.out.cell]; rfl
    have n1 : w1.cell? ⟨w.heap.size, 1, none⟩ = some (.slice A s.length c) := by rw [M0.out.cell]; rfl
    clear h1
    go_wp2_with fail
    rw [str_app kwn 32]
    obtain ⟨m, hm⟩ : ∃ m, m = kwn ++ [32] := ⟨_, rfl⟩
    have hml : m.length ≤ 6 := by rw [hm, List.length_append]; simp; omega
    have HM := Lib.hid hm
    rw [← hm]
    have hz1 := str_size m
    have hz2 := str_size (setTxt s)
    have hsl : (setTxt s).length ≤ 44 * s.length + 2 := by
      unfold setTxt
      split
      · simp
      · have := acc_len s H64.out s.length (Nat.le_refl _)
        rw [List.take_length] at this
        omega
    clear hm
    refine (sSetText_c A c s w1 (HS.out.below HB.out) H64.out (by omega)).mono ?_
    rintro e w2 ⟨rfl, b2⟩
    clear n0 n1
    go_wp2_with fail
    go_ret
    refine ⟨?_, below_then HB.out b2⟩
    rw [E.out, ← HM.out]
    exact congrArg (fun x => Ending.returned (Value.string x)) (str_append m (setTxt s))
  · have d0 : ((n : Int) == 1) = false := by simp; omega
    have E : Hid (rexTxt (.mk (n : Int) s ks) = kwn ++ kidTxts ks) := by
      show _ = _
      rw [HKW.out]
      exact rexTxt_kids (by omega) s ks
    have n0 : w1.cell? ⟨w.heap.size, 0, none⟩ = some (.int .i64 (n : Int)) := by rw [M0.out.cell]; rfl
    clear h1
    go_wp2_with fail
    clear n0 d0
    go_loopg [3, 4] ks.length (fun n' v3 v4 wr => ∃ j : Nat, j + n' = ks.length ∧ v4 = .int .i64 j ∧ ∃ acc : List UInt8, v3 = .string (str acc) ∧ Hid (acc = kwn ++ kidTxts (ks.take j)) ∧ Hid (Blk wr w.heap.size #[.int .i64 (n : Int), .slice A s.length c, .slice K ks.length ck] TRx) ∧ Hid (Below w.heap.size w wr))
    case atStart => exact ⟨0, by omega, rfl, kwn, rfl, by show _ = _; simp [kidTxts], M0, HB⟩
    case round =>
      clear M0 HB
      obtain ⟨j, hj, rfl, acc, rfl, HA, M0, HB⟩ := hrel
      have n2 : wr.cell? ⟨w.heap.size, 2, none⟩ = some (.slice K ks.length ck) := by rw [M0.out.cell]; rfl
      by_cases hlt : j < ks.length
      · obtain ⟨a, r, x1, x2, rfl, HX, HD, HV, c0, c1, c2⟩ := (HK.out.below HB.out).at_ j hlt
        obtain ⟨A2', q2, K2, d2, _, rfl, rfl, _⟩ := HV.out.parts
        have hmem := List.mem_of_getElem? HX.out
        have hks := sizeL_kid hmem
        have hkt := kidTxts_le ks j
        have hal : acc.length ≤ 100000000 := by have := HKL.out; rw [HA.out, List.length_append]; omega
        have htl : (rexTxt r).length ≤ 100000000 := by have := txt_len r (d - 1) (HFK.out r hmem); omega
        have hz1 := str_size acc
        have hz2 := str_size (rexTxt r)
        have i0 : (0 : Int) ≤ (j : Int) := by omega
        have i1 : (j : Int) < (ks.length : Int) := by omega
        go_wp2_with fail
        rw [str_app acc 32]
        obtain ⟨m, hm⟩ : ∃ m, m = acc ++ [32] := ⟨_, rfl⟩
        have hml : m.length ≤ 100000001 := by rw [hm, List.length_append]; simp; omega
        have HM := Lib.hid hm
        rw [← hm]
        have hz3 := str_size m
        clear hm
        refine (ih r hmem (d - 1) _ _ wr lo (HFK.out r hmem) HV.out (by omega)).mono ?_
        rintro e w2 ⟨rfl, b2⟩
        clear c0 c1 c2 n2
        go_wp2_with fail
        go_roundg (gk - 1)
        case measure => omega
        case rel =>
          refine ⟨j + 1, by omega, by go_num, m ++ rexTxt r, by rw [str_append], ?_, M0.out.below b2, below_then HB.out b2⟩
          show _ = _
          rw [HM.out, HA.out, kidTxts_take HX.out]
          simp
      · have hj' : j = ks.length := by omega
        subst hj'
        rw [List.take_length] at HA
        go_wp2_with fail
        go_ret
        exact ⟨by rw [E.out, ← HA.out]; rfl, HB.out⟩
set_option maxHeartbeats 1000000 in
theorem sRexText_c (r : Rex) (v1 v2 : Value) (w : World) (lo : Nat) (h : RexV w lo r (.int .i64 r.kind) v1 v2) (hsz : r.size ≤ 1048576) :
    Calls Tryz.prog 33 #[.agg #[.int .i64 r.kind, v1, v2]] w fun e w' => e = .returned (.string (str (rexText r))) ∧ Below w.heap.size w w' := by
  obtain ⟨A, c, K, ck, _, rfl, rfl, _, _⟩ := h.parts
  obtain ⟨wa, hwa⟩ : ∃ x, x = w.alloc (.cells #[.int .i64 r.kind, .slice A r.set.length c, .slice K r.kids.length ck] TRx) := ⟨_, rfl⟩
  have hb : Below w.heap.size w wa := by rw [hwa]; exact below_alloc (Below.refl _ _) _
  have m0 : Blk wa w.heap.size #[.int .i64 r.kind, .slice A r.set.length c, .slice K r.kids.length ck] TRx := by rw [hwa]; exact blk_new w _ _
  have HV := Lib.hid (h.under hb)
  have HB := Lib.hid hb
  have M0 := Lib.hid m0
  clear m0 h hb
  replace hwa := hwa.symm
  have n0 : wa.cell? ⟨w.heap.size, 0, none⟩ = some (.int .i64 r.kind) := by rw [M0.out.cell]; rfl
  have n0' : wa.cell? ⟨w.heap.size, 1, none⟩ = some (.slice A r.set.length c) := by rw [M0.out.cell]; rfl
  have n0'' : wa.cell? ⟨w.heap.size, 2, none⟩ = some (.slice K r.kids.length ck) := by rw [M0.out.cell]; rfl
  go_enter Tryz.func33, Tryz.ntmps33
  go_wp2_with fail
  clear hwa
  refine (sRexOk_c _ _ _ _ _ HV.out hsz).mono ?_
  rintro e w1 ⟨rfl, b1⟩
  replace M0 := Lib.hid (M0.out.below b1)
  have H1 := Lib.hid b1
  clear n0 n0' n0'' b1
  have n0 : w1.cell? ⟨w.heap.size, 0, none⟩ = some (.int .i64 r.kind) := by rw [M0.out.cell]; rfl
  have n0' : w1.cell? ⟨w.heap.size, 1, none⟩ = some (.slice A r.set.length c) := by rw [M0.out.cell]; rfl
  have n0'' : w1.cell? ⟨w.heap.size, 2, none⟩ = some (.slice K r.kids.length ck) := by rw [M0.out.cell]; rfl
  by_cases hf : rexOk r = true
  · have HF := Lib.hid hf
    rw [hf]
    clear hf
    go_wp2_with fail
    refine (sText_c r 8 _ _ w1 lo (rexOk_formed HF.out) (HV.out.under H1.out) hsz).mono ?_
    rintro e w2 ⟨rfl, b2⟩
    clear n0 n0' n0''
    go_wp2_with fail
    go_ret
    exact ⟨by rw [rexText, if_pos HF.out]; rfl, below_then HB.out (below_then H1.out b2)⟩
  · have HF := Lib.hid hf
    rw [show rexOk r = false by simpa using hf]
    clear hf
    go_wp2_with fail
    go_ret
    exact ⟨by rw [rexText, if_neg HF.out]; rfl, below_then HB.out H1.out⟩

end Go.Proofs.YtfeidjjabjejiaaGreatDoor

/- A tree put into a list that lies in the order of the texts, by the reference. -/
namespace Go.Proofs.YtfeidjjabjejiaaGreatDoor
set_option linter.unusedSimpArgs false
set_option linter.unusedVariables false
set_option maxRecDepth 100000
open Go.RowKit

/-! ### the plain law -/
theorem put_at : ∀ (l : List Rex) (r : Rex) (k : Nat), k ≤ l.length → (∀ j x, j < k → l[j]? = some x → rexTxt x < rexTxt r) → (∀ x, l[k]? = some x → ¬ rexTxt x < rexTxt r) →
    (∀ x, l[k]? = some x → rexTxt x = rexTxt r → put l r = l) ∧ ((∀ x, l[k]? = some x → rexTxt x ≠ rexTxt r) → put l r = l.take k ++ r :: l.drop k)
  | [], r, k, hk, _, _ => by
    obtain rfl : k = 0 := by simpa using hk
    exact ⟨fun x h => by simp at h, fun _ => rfl⟩
  | y :: l, r, 0, _, _, h2 => by
    have hy := h2 y rfl
    refine ⟨fun x h e => ?_, fun h => ?_⟩
    · obtain rfl : y = x := by simpa using h
      rw [put, if_neg hy, if_pos e]
    · rw [put, if_neg hy, if_neg (h y rfl)]
      rfl
  | y :: l, r, k + 1, hk, h1, h2 => by
    have hy := h1 0 y (by omega) rfl
    obtain ⟨a, b⟩ := put_at l r k (by simpa using hk) (fun j x hj e => h1 (j + 1) x (by omega) (by simpa using e)) (fun x e => h2 x (by simpa using e))
    refine ⟨fun x h e => ?_, fun h => ?_⟩
    · rw [put, if_pos hy, a x (by simpa using h) e]
    · rw [put, if_pos hy, b (fun x e => h x (by simpa using e))]
      rfl
theorem kcells_take : ∀ (rs : List Rex) (L : List KInfo) (k : Nat), kcells (rs.take k) (L.take k) = (kcells rs L).take (k * 3)
  | [], L, k => by simp [kcells]
  | r :: rs, [], k => by cases k <;> simp [kcells]
  | r :: rs, x :: L, 0 => by simp [kcells]
  | r :: rs, x :: L, k + 1 => by
    have h3 : (kcell r x).length = 3 := rfl
    rw [List.take_succ_cons, List.take_succ_cons, kcells, kcells, kcells_take rs L k, List.take_append, h3, show (k + 1) * 3 - 3 = k * 3 by omega]
    rw [List.take_of_length_le (show (kcell r x).length ≤ (k + 1) * 3 by omega)]
theorem kcells_drop : ∀ (rs : List Rex) (L : List KInfo) (k : Nat), rs.length = L.length → kcells (rs.drop k) (L.drop k) = (kcells rs L).drop (k * 3)
  | [], L, k, h => by
    obtain rfl : L = [] := by simpa using h.symm
    simp [kcells]
  | r :: rs, [], k, h => by simp at h
  | r :: rs, x :: L, 0, _ => by simp [kcells]
  | r :: rs, x :: L, k + 1, h => by
    have h3 : (kcell r x).length = 3 := rfl
    rw [List.drop_succ_cons, List.drop_succ_cons, kcells_drop rs L k (by simpa using h), kcells, List.drop_append, h3, show (k + 1) * 3 - 3 = k * 3 by omega]
    rw [List.drop_of_length_le (show (kcell r x).length ≤ (k + 1) * 3 by omega), List.nil_append]
/-- the head of a row that a call made -/
theorem own_take {w : World} {base n size c k : Nat} {e : TypeId} {A : Option Addr} {cs : List Value} (h : w.ownsRow base e size (.slice A n c) n cs) (hk : k ≤ n) : w.ownsRow base e size (.slice A k c) k (cs.take (k * size)) := by
  have hkn : k * size ≤ n * size := Nat.mul_le_mul_right _ hk
  refine ⟨by rw [List.length_take, h.1]; omega, ?_⟩
  rcases h.2 with ⟨ev, rfl⟩ | ⟨g, cap, cur, ev, hg, hh, hnc, hcm, hcs, ht⟩
  · injection ev with e1 e2 e3
    obtain rfl : k = 0 := by omega
    subst e1 e3
    exact .inl ⟨rfl, rfl⟩
  · injection ev with e1 e2 e3
    subst e1 e3
    exact .inr ⟨g, c, cur, rfl, hg, hh, by omega, hcm, hcs, by rw [← ht, List.take_take, Nat.min_eq_left hkn]⟩
theorem OwnR.take {w : World} {base n c k : Nat} {p : Nat → Prop} {A : Option Addr} {rs : List Rex} {L : List KInfo} (h : OwnR w base p (.slice A n c) rs L) (hn : n = rs.length) (hk : k ≤ n) (hp : ∀ b, p b → b < base) : OwnR w base p (.slice A k c) (rs.take k) (L.take k) := by
  subst hn
  have hl := h.len
  have hle := h.le
  have hk' : (rs.take k).length = k := by rw [List.length_take]; omega
  refine OwnR.mk' (by rw [hk', kcells_take]; exact own_take h.own hk) (by rw [List.length_take, List.length_take, hl]) (by rw [hk']; omega) hp fun i r x a b => ?_
  rw [List.getElem?_take] at a b
  by_cases hi : i < k
  · rw [if_pos hi] at a b
    exact h.reads i r x a b
  · rw [if_neg hi] at a
    cases a
/-! the same rows, where the trees' parts may lie anywhere but in the row's own block -/
theorem OwnR.mkv {w : World} {base : Nat} {p : Nat → Prop} {v : Value} {rs : List Rex} {L : List KInfo} (own : w.ownsRow base TRx 3 v rs.length (kcells rs L)) (len : L.length = rs.length) (le : rs.length ≤ maxN) (hv : ∀ b, p b → b ∉ vblk v)
    (hr : ∀ (i : Nat) (r : Rex) (x : KInfo), rs[i]? = some r → L[i]? = some x → RexP w p r (.int .i64 r.kind) x.v1 x.v2) : OwnR w base p v rs L :=
  ⟨own, len, le, fun i r x a b => (hr i r x a b).mono fun b hb => ⟨hb, hv b hb⟩⟩
theorem OwnR.appv {w w' : World} {base base2 : Nat} {p : Nat → Prop} {v v2 v' : Value} {rs ss : List Rex} {L M : List KInfo} (h : OwnR w base p v rs L) (h2 : OwnR w base2 p v2 ss M) (hv : ∀ b, p b → b ∉ vblk v') (he : w'.ownsRow base TRx 3 v' (rs.length + ss.length) (kcells rs L ++ kcells ss M))
    (hk : ∀ b, p b → b < w.heap.size → w'.heap[b]? = w.heap[b]?) (hn : rs.length + ss.length ≤ maxN) : OwnR w' base p v' (rs ++ ss) (L ++ M) := by
  refine OwnR.mkv (by rw [List.length_append, kcells_app _ _ _ _ h.len.symm]; exact he) (by rw [List.length_append, List.length_append, h.len, h2.len]) (by rw [List.length_append]; exact hn) hv fun i r x a b => ?_
  have hl := h.len
  by_cases e : i < rs.length
  · rw [List.getElem?_append_left e] at a
    rw [List.getElem?_append_left (by omega)] at b
    exact (h.reads i r x a b).keep hk
  · rw [List.getElem?_append_right (by omega)] at a
    rw [List.getElem?_append_right (by omega), hl] at b
    exact (h2.reads _ r x a b).keep hk
theorem OwnR.takev {w : World} {base n c k g : Nat} {p : Nat → Prop} {rs : List Rex} {L : List KInfo} (h : OwnR w base p (.slice (some ⟨g, 0, none⟩) n c) rs L) (hn : n = rs.length) (hk : k ≤ n) (hp : ∀ b, p b → b ≠ g) : OwnR w base p (.slice (some ⟨g, 0, none⟩) k c) (rs.take k) (L.take k) := by
  subst hn
  have hl := h.len
  have hle := h.le
  have hk' : (rs.take k).length = k := by rw [List.length_take]; omega
  refine OwnR.mkv (by rw [hk', kcells_take]; exact own_take h.own hk) (by rw [List.length_take, List.length_take, hl]) (by rw [hk']; omega) (fun b hb hv => hp b hb (by rw [vblk_some] at hv; exact List.mem_singleton.1 hv)) fun i r x a b => ?_
  rw [List.getElem?_take] at a b
  by_cases hi : i < k
  · rw [if_pos hi] at a b
    exact h.reads i r x a b
  · rw [if_neg hi] at a
    cases a
/-- the tail of a row, for reading -/
theorem row_drop {w : World} {lo k : Nat} {g : Nat} {cs : List Value} (h : Row w lo (some ⟨g, 0, none⟩) cs) : Row w lo (some ⟨g, k, none⟩) (cs.drop k) := by
  rcases h with rfl | ⟨a, ea, hl, hc⟩
  · exact .inl (by simp)
  · injection ea with ea
    subst ea
    refine .inr ⟨_, rfl, hl, fun j u hj => ?_⟩
    rw [List.getElem?_drop] at hj
    have := hc (k + j) u hj
    rw [add_g] at this
    rw [show (⟨g, k, none⟩ : Addr).add j = ⟨g, k + j, none⟩ by simp [Addr.add]]
    exact this
theorem sTxt (r : Rex) (p : Nat → Prop) (v1 v2 : Value) (w : World) (h : RexP w p r (.int .i64 r.kind) v1 v2) (ht : ∃ d, formed d r = true ∧ r.size ≤ 1048576) :
    Calls Tryz.prog 85 #[.agg #[.int .i64 r.kind, v1, v2]] w fun e w' => e = .returned (.string (str (rexTxt r))) ∧ Below w.heap.size w w' := by
  obtain ⟨d, hf, hs⟩ := ht
  exact sText_c r d v1 v2 w 0 hf h.rexv hs
end Go.Proofs.YtfeidjjabjejiaaGreatDoor
