/- Patterns as texts: writeRex of the program. -/
import Derived.Test.YtlchipjckgaclaaDoorTu
namespace Go.Proofs.YtlchipjckgaclaaDoor
set_option linter.unusedSimpArgs false
set_option linter.unusedVariables false
set_option maxRecDepth 100000
open Go.RowKit

theorem manyLT : ∀ (ks : List Rex) (j : Nat) {r : Rex}, ks[j]? = some r → manyL (ks.take j) + r.many ≤ manyL ks
  | [], j, r, h => by simp at h
  | x :: ks, 0, r, h => by
    simp at h
    subst h
    simp [manyL]
  | x :: ks, j + 1, r, h => by
    have := manyLT ks j (r := r) (by simpa using h)
    rw [List.take_succ_cons, manyL, manyL]
    omega
def WriteOk (r : Rex) : Prop := ∀ (d : Nat) (v1 v2 : Value) (w0 w : World) (lo : Nat) (A2 : Option Addr) (n2 c2 : Nat) (ws : List (List UInt8)), formed d r = true → RexV w0 lo r (.int .i64 r.kind) v1 v2 → Below w0.heap.size w0 w →
  w.ownsRow w0.heap.size TStr 1 (.slice A2 n2 c2) n2 (wcells ws) → n2 = ws.length → r.size ≤ 1048576 → n2 + 2 * r.many ≤ 1000 → Pow10 w0 →
  Calls Tryd.prog 82 #[.agg #[.int .i64 r.kind, v1, v2], .slice A2 n2 c2] w fun e w' => ∃ A3 n3 c3, e = .returned (.slice A3 n3 c3) ∧ n3 = (ws ++ wordsOf r).length ∧ w'.ownsRow w0.heap.size TStr 1 (.slice A3 n3 c3) n3 (wcells (ws ++ wordsOf r)) ∧ Below w0.heap.size w0 w'

set_option maxHeartbeats 2000000 in
theorem iWrite_c (r : Rex) : WriteOk r := by
  refine Rex.ind (p := WriteOk) (fun k s ks ih => ?_) r
  intro d v1 v2 w0 w lo A2 n2 c2 ws hd h hbel ho hn hsz hmn hp
  obtain ⟨A, c, K, ck, _, rfl, rfl, hs, hk⟩ := h.parts
  dsimp only [Rex.kind, Rex.set, Rex.kids] at hs hk ⊢
  rw [Rex.size] at hsz
  rw [Rex.many] at hmn
  clear h
  obtain ⟨hkk, _, hok, _, hfk⟩ := formed_node hd
  have HFK : Hid (∀ r, r ∈ ks → formed (d - 1) r = true) := hfk
  have HPW := Lib.hid hp
  have HN0 := Lib.hid hn
  have hkind : k = 1 ∨ k = 2 ∨ k = 3 ∨ k = 4 ∨ k = 5 ∨ k = 6 ∨ k = 7 := by
    rcases kidsOf_cases hkk with ⟨e, _⟩ | ⟨e, _⟩ | ⟨e, _⟩ <;> omega
  have H64 := Lib.hid (ok_64 hok)
  obtain ⟨iS, hiS, hzS0, hzS1, hzS2⟩ := info_parts infoStr
  obtain ⟨wa, hwa⟩ : ∃ x, x = w.alloc (.cells #[.int .i64 k, .slice A s.length c, .slice K ks.length ck] TRx) := ⟨_, rfl⟩
  have hb : Below w.heap.size w wa := by rw [hwa]; exact below_alloc (Below.refl _ _) _
  have m0 : Blk wa w.heap.size #[.int .i64 k, .slice A s.length c, .slice K ks.length ck] TRx := by rw [hwa]; exact blk_new w _ _
  replace hwa := hwa.symm
  have HK := Lib.hid hk
  have HS := Lib.hid hs
  have HBa := Lib.hid (below_then hbel hb)
  have HOa := Lib.hid ho
  have HOaa := Lib.hid (own_below ho hb)
  have hzw := hbel.size
  have M0 := Lib.hid m0
  have n0 : wa.cell? ⟨w.heap.size, 0, none⟩ = some (.int .i64 k) := by rw [m0.cell]; rfl
  clear hs hk ho hd hok hfk hp hkk hbel hn
  go_enter Tryd.func82, Tryd.ntmps82
  go_wp2_with fail
  clear hwa
  refine (iRexWord_c k wa hkind).mono ?_
  rintro e w1 ⟨rfl, b1⟩
  have B1 := Lib.hid (below_then HBa.out b1)
  have bw1 := Lib.hid (below_then hb b1)
  replace M0 := Lib.hid (M0.out.below b1)
  obtain ⟨tx, htx⟩ : ∃ t, t = str (kw k) := ⟨_, rfl⟩
  rw [← htx]
  have HTX := Lib.hid htx
  clear htx n0 b1 m0 hb
  have hz1 := M0.out.lt
  have HNE : Hid (∀ q, (Value.slice A2 n2 c2).ownBlock = some q → q ≠ w.heap.size) := fun q hq e => by have := (own_base HOa.out q hq).2; omega
  have OWN0 := HOa
  have BLW := bw1
  by_cases h1 : k = 1
  · subst h1
    obtain ⟨yss, hyss⟩ : ∃ y, y = ws ++ [kw 1] ++ [setTxt s] := ⟨_, rfl⟩
    have HYS := Lib.hid hyss
    have hyl : Hid (yss.length = n2 + 2) := by show _ = _; have := HN0.out; rw [hyss]; simp; omega
    have HY : Hid (yss ++ wordsL ks = ws ++ wordsOf (.mk 1 s ks)) := by show _ = _; rw [hyss, wordsOf, if_pos rfl]; simp
    clear hyss
    have hn1 : n2 + 1 ≤ maxLen := by unfold maxLen; omega
    have hn2 : (n2 + 1) * 16 ≤ 140737488355328 := by omega
    have hn3 := B1.out.size
    have OW := Lib.hid (own_below OWN0.out BLW.out)
    go_wp2_with (at_builtin; refine wpList_append_row (by rfl) (.tmp 7) (.tmp 11) 63 (by rfl) w0.heap.size TStr iS (.string ⟨#[]⟩) 1 16 Tryd.underlying63 hiS hzS0 hzS1 hzS2 rfl (by decide) (.slice A2 n2 c2) n2 (wcells ws) (by rfl) (own_below OW.out (below_alloc (Below.refl _ _) _)) (some ⟨w1.heap.size, 0, none⟩) 1 1 [.string tx] (by rfl) (.inr ⟨⟨w1.heap.size, 0, none⟩, rfl, Nat.zero_le _, new_cells w1 [.string tx] TStr⟩) rfl (fun u hu => by rw [List.mem_singleton.1 hu]; rfl) hn1 hn2 (by simp; omega) _ rfl (n2 + 1) rfl ?_; intro AE cE wE hown hgrow hat; have HE := Lib.hid hown; have BE := Lib.hid ((below_alloc B1.out _).grown hgrow (by simp; omega) (fun q hq => (own_base OW.out q hq).1)); have ZB := Lib.hid ((M0.out.alloc (.cells #[.string tx] TStr)).grown hgrow HNE.out); have HAT := Lib.hid hat; have n0 : wE.cell? ⟨w.heap.size, 0, none⟩ = some (.int .i64 (1)) := (by rw [ZB.out.cell]; rfl); have n1 : wE.cell? ⟨w.heap.size, 1, none⟩ = some (.slice A s.length c) := (by rw [ZB.out.cell]; rfl); have n2' : wE.cell? ⟨w.heap.size, 2, none⟩ = some (.slice K ks.length ck) := (by rw [ZB.out.cell]; rfl); clear hown hgrow hat)
    have HNE2 : Hid (∀ q, (Value.slice AE (n2 + 1) cE).ownBlock = some q → q ≠ w.heap.size) := fun q hq e => by
      rcases HAT.out q (mem_vblk.2 hq) with h1 | h1
      · have := (own_base HOa.out q (mem_vblk.1 h1)).2; omega
      · simp at h1; omega
    have HE1 : Hid (wE.ownsRow w0.heap.size TStr 1 (.slice AE (n2 + 1) cE) (n2 + 1) (wcells (ws ++ [kw 1]))) := by show World.ownsRow _ _ _ _ _ _ _; rw [wcells_snoc, ← HTX.out]; exact HE.out
    clear HNE HAT HE OW hn1 hn2 hn3 HOaa HBa B1 OWN0 BLW
    refine (iSetText_c A c s wE (HS.out.below BE.out) H64.out (by omega) (HPW.out.below BE.out)).mono ?_
    rintro e w4 ⟨rfl, b4⟩
    have B4 := Lib.hid (below_then BE.out b4)
    have b4h := Lib.hid b4
    replace M0 := Lib.hid (ZB.out.below b4)
    clear n0 n1 n2' ZB BE HTX b4
    obtain ⟨tx2, htx⟩ : ∃ t, t = str (setTxt s) := ⟨_, rfl⟩
    rw [← htx]
    have HTX := Lib.hid htx
    clear htx
    have HNE := HNE2
    clear HNE2
    obtain ⟨tx, htx⟩ : ∃ t, t = tx2 := ⟨_, rfl⟩
    rw [← htx]
    replace htx := Lib.hid htx
    have OWN0 := HE1
    have BLW := b4h
    have hn1 : (n2 + 1) + 1 ≤ maxLen := by unfold maxLen; omega
    have hn2 : ((n2 + 1) + 1) * 16 ≤ 140737488355328 := by omega
    have hn3 := B4.out.size
    have OW := Lib.hid (own_below OWN0.out BLW.out)
    go_wp2_with (at_builtin; refine wpList_append_row (by rfl) (.tmp 16) (.tmp 20) 63 (by rfl) w0.heap.size TStr iS (.string ⟨#[]⟩) 1 16 Tryd.underlying63 hiS hzS0 hzS1 hzS2 rfl (by decide) (.slice AE (n2 + 1) cE) (n2 + 1) (wcells (ws ++ [kw 1])) (by rfl) (own_below OW.out (below_alloc (Below.refl _ _) _)) (some ⟨w4.heap.size, 0, none⟩) 1 1 [.string tx] (by rfl) (.inr ⟨⟨w4.heap.size, 0, none⟩, rfl, Nat.zero_le _, new_cells w4 [.string tx] TStr⟩) rfl (fun u hu => by rw [List.mem_singleton.1 hu]; rfl) hn1 hn2 (by simp; omega) _ rfl ((n2 + 1) + 1) rfl ?_; intro AE cE wE hown hgrow hat; have HE := Lib.hid hown; have BE := Lib.hid ((below_alloc B4.out _).grown hgrow (by simp; omega) (fun q hq => (own_base OW.out q hq).1)); have ZB := Lib.hid ((M0.out.alloc (.cells #[.string tx] TStr)).grown hgrow HNE.out); have HAT := Lib.hid hat; have n0 : wE.cell? ⟨w.heap.size, 0, none⟩ = some (.int .i64 (1)) := (by rw [ZB.out.cell]; rfl); have n1 : wE.cell? ⟨w.heap.size, 1, none⟩ = some (.slice A s.length c) := (by rw [ZB.out.cell]; rfl); have n2' : wE.cell? ⟨w.heap.size, 2, none⟩ = some (.slice K ks.length ck) := (by rw [ZB.out.cell]; rfl); clear hown hgrow hat)
    have HO : Hid (wE.ownsRow w0.heap.size TStr 1 (.slice AE (n2 + 1 + 1) cE) (n2 + 1 + 1) (wcells yss)) := by show World.ownsRow _ _ _ _ _ _ _; rw [HYS.out, wcells_snoc, ← HTX.out, ← htx.out]; exact HE.out
    have HB := BE
    have HN : Hid (n2 + 1 + 1 = yss.length) := hyl.out.symm
    clear n0 n1 n2' HE BE ZB HAT OW hn1 hn2 hn3 HE1 HNE M0 OWN0 BLW
    go_loopg [1, 25] (ks.length) (fun n v i wr => ∃ j : Nat, j + n = ks.length ∧ i = .int .i64 j ∧ ∃ (A3 : Option Addr) (n3 c3 : Nat), v = .slice A3 n3 c3 ∧ Hid (n3 = (yss ++ wordsL (ks.take j)).length) ∧ Hid (wr.ownsRow w0.heap.size TStr 1 (.slice A3 n3 c3) n3 (wcells (yss ++ wordsL (ks.take j)))) ∧ Hid (Below w0.heap.size w0 wr))
    case atStart => exact ⟨0, by omega, rfl, _, _, _, rfl, by show _ = _; rw [HN.out]; simp [wordsL], by show World.ownsRow _ _ _ _ _ _ _; simpa [wordsL] using HO.out, HB⟩
    case round =>
      clear HO HB HN
      obtain ⟨j, hj, rfl, A3, n3, c3, rfl, HN, HO, HB⟩ := hrel
      by_cases hlt : j < ks.length
      · obtain ⟨a, r, x1, x2, rfl, HX, HD, HV, e0, e1, e2⟩ := HK.out.at_ j hlt
        obtain ⟨A2', q2, K2, d2, _, rfl, rfl, _⟩ := HV.out.parts
        have c0 := (HB.out.cell (World.block_lt_of_cell? w0 _ e0)).trans e0
        have c1 := (HB.out.cell (World.block_lt_of_cell? w0 _ e1)).trans e1
        have c2 := (HB.out.cell (World.block_lt_of_cell? w0 _ e2)).trans e2
        have hmem := List.mem_of_getElem? HX.out
        have hks := sizeL_kid hmem
        have hmt := manyLT ks j HX.out
        have hwl := wordsL_many (ks.take j)
        have HNL : Hid (n3 = yss.length + (wordsL (ks.take j)).length) := by show _ = _; rw [HN.out, List.length_append]
        have i0 : (0 : Int) ≤ (j : Int) := by omega
        have i1 : (j : Int) < (ks.length : Int) := by omega
        clear e0 e1 e2
        go_wp2_with fail
        refine (ih r hmem (d - 1) _ _ w0 _ lo A3 n3 c3 _ (HFK.out r hmem) HV.out (below_alloc HB.out _) (own_below HO.out (below_alloc (Below.refl _ _) _)) HN.out (by omega) (by have := HNL.out; have := hyl.out; omega) HPW.out).mono ?_
        rintro e w5 ⟨A4, n4, c4, rfl, h4, o4, b4⟩
        have HT := Lib.hid (wordsL_take HX.out)
        have HN4 : Hid (n4 = (yss ++ wordsL (ks.take (j + 1))).length) := by show _ = _; rw [h4, HT.out, ← List.append_assoc]
        have HO4 : Hid (w5.ownsRow w0.heap.size TStr 1 (.slice A4 n4 c4) n4 (wcells (yss ++ wordsL (ks.take (j + 1))))) := by show World.ownsRow _ _ _ _ _ _ _; rw [HT.out, ← List.append_assoc]; exact o4
        have HB4 := Lib.hid b4
        clear c0 c1 c2 h4 o4 b4 HNL
        go_wp2_with fail
        go_roundg (gk - 1)
        case measure => omega
        case rel => exact ⟨j + 1, by omega, by go_num, A4, n4, c4, rfl, HN4, HO4, HB4⟩
      · have hj' : j = ks.length := by omega
        subst hj'
        rw [List.take_length] at HO HN
        go_wp2_with fail
        go_ret
        refine ⟨A3, n3, c3, rfl, ?_, ?_, HB.out⟩
        · rw [HN.out, HY.out]
        · rw [← HY.out]; exact HO.out
  · have d0 : (k == 1) = false := by simp [h1]
    obtain ⟨yss, hyss⟩ : ∃ y, y = ws ++ [kw k] := ⟨_, rfl⟩
    have HYS := Lib.hid hyss
    have hyl : Hid (yss.length = n2 + 1) := by show _ = _; have := HN0.out; rw [hyss]; simp; omega
    have HY : Hid (yss ++ wordsL ks = ws ++ wordsOf (.mk k s ks)) := by show _ = _; rw [hyss, wordsOf, if_neg h1]; simp
    clear hyss h1
    have hn1 : n2 + 1 ≤ maxLen := by unfold maxLen; omega
    have hn2 : (n2 + 1) * 16 ≤ 140737488355328 := by omega
    have hn3 := B1.out.size
    have OW := Lib.hid (own_below OWN0.out BLW.out)
    go_wp2_with (at_builtin; refine wpList_append_row (by rfl) (.tmp 7) (.tmp 11) 63 (by rfl) w0.heap.size TStr iS (.string ⟨#[]⟩) 1 16 Tryd.underlying63 hiS hzS0 hzS1 hzS2 rfl (by decide) (.slice A2 n2 c2) n2 (wcells ws) (by rfl) (own_below OW.out (below_alloc (Below.refl _ _) _)) (some ⟨w1.heap.size, 0, none⟩) 1 1 [.string tx] (by rfl) (.inr ⟨⟨w1.heap.size, 0, none⟩, rfl, Nat.zero_le _, new_cells w1 [.string tx] TStr⟩) rfl (fun u hu => by rw [List.mem_singleton.1 hu]; rfl) hn1 hn2 (by simp; omega) _ rfl (n2 + 1) rfl ?_; intro AE cE wE hown hgrow hat; have HE := Lib.hid hown; have BE := Lib.hid ((below_alloc B1.out _).grown hgrow (by simp; omega) (fun q hq => (own_base OW.out q hq).1)); have ZB := Lib.hid ((M0.out.alloc (.cells #[.string tx] TStr)).grown hgrow HNE.out); have HAT := Lib.hid hat; have n0 : wE.cell? ⟨w.heap.size, 0, none⟩ = some (.int .i64 (k)) := (by rw [ZB.out.cell]; rfl); have n1 : wE.cell? ⟨w.heap.size, 1, none⟩ = some (.slice A s.length c) := (by rw [ZB.out.cell]; rfl); have n2' : wE.cell? ⟨w.heap.size, 2, none⟩ = some (.slice K ks.length ck) := (by rw [ZB.out.cell]; rfl); clear hown hgrow hat)
    have HO : Hid (wE.ownsRow w0.heap.size TStr 1 (.slice AE (n2 + 1) cE) (n2 + 1) (wcells yss)) := by show World.ownsRow _ _ _ _ _ _ _; rw [HYS.out, wcells_snoc, ← HTX.out]; exact HE.out
    have HB := BE
    have HN : Hid (n2 + 1 = yss.length) := hyl.out.symm
    clear n0 n1 n2' HE BE ZB M0 HNE HAT OW hn1 hn2 hn3 HOaa HBa B1 OWN0 BLW
    go_loopg [1, 25] (ks.length) (fun n v i wr => ∃ j : Nat, j + n = ks.length ∧ i = .int .i64 j ∧ ∃ (A3 : Option Addr) (n3 c3 : Nat), v = .slice A3 n3 c3 ∧ Hid (n3 = (yss ++ wordsL (ks.take j)).length) ∧ Hid (wr.ownsRow w0.heap.size TStr 1 (.slice A3 n3 c3) n3 (wcells (yss ++ wordsL (ks.take j)))) ∧ Hid (Below w0.heap.size w0 wr))
    case atStart => exact ⟨0, by omega, rfl, _, _, _, rfl, by show _ = _; rw [HN.out]; simp [wordsL], by show World.ownsRow _ _ _ _ _ _ _; simpa [wordsL] using HO.out, HB⟩
    case round =>
      clear HO HB HN
      obtain ⟨j, hj, rfl, A3, n3, c3, rfl, HN, HO, HB⟩ := hrel
      by_cases hlt : j < ks.length
      · obtain ⟨a, r, x1, x2, rfl, HX, HD, HV, e0, e1, e2⟩ := HK.out.at_ j hlt
        obtain ⟨A2', q2, K2, d2, _, rfl, rfl, _⟩ := HV.out.parts
        have c0 := (HB.out.cell (World.block_lt_of_cell? w0 _ e0)).trans e0
        have c1 := (HB.out.cell (World.block_lt_of_cell? w0 _ e1)).trans e1
        have c2 := (HB.out.cell (World.block_lt_of_cell? w0 _ e2)).trans e2
        have hmem := List.mem_of_getElem? HX.out
        have hks := sizeL_kid hmem
        have hmt := manyLT ks j HX.out
        have hwl := wordsL_many (ks.take j)
        have HNL : Hid (n3 = yss.length + (wordsL (ks.take j)).length) := by show _ = _; rw [HN.out, List.length_append]
        have i0 : (0 : Int) ≤ (j : Int) := by omega
        have i1 : (j : Int) < (ks.length : Int) := by omega
        clear e0 e1 e2
        go_wp2_with fail
        refine (ih r hmem (d - 1) _ _ w0 _ lo A3 n3 c3 _ (HFK.out r hmem) HV.out (below_alloc HB.out _) (own_below HO.out (below_alloc (Below.refl _ _) _)) HN.out (by omega) (by have := HNL.out; have := hyl.out; omega) HPW.out).mono ?_
        rintro e w5 ⟨A4, n4, c4, rfl, h4, o4, b4⟩
        have HT := Lib.hid (wordsL_take HX.out)
        have HN4 : Hid (n4 = (yss ++ wordsL (ks.take (j + 1))).length) := by show _ = _; rw [h4, HT.out, ← List.append_assoc]
        have HO4 : Hid (w5.ownsRow w0.heap.size TStr 1 (.slice A4 n4 c4) n4 (wcells (yss ++ wordsL (ks.take (j + 1))))) := by show World.ownsRow _ _ _ _ _ _ _; rw [HT.out, ← List.append_assoc]; exact o4
        have HB4 := Lib.hid b4
        clear c0 c1 c2 h4 o4 b4 HNL
        go_wp2_with fail
        go_roundg (gk - 1)
        case measure => omega
        case rel => exact ⟨j + 1, by omega, by go_num, A4, n4, c4, rfl, HN4, HO4, HB4⟩
      · have hj' : j = ks.length := by omega
        subst hj'
        rw [List.take_length] at HO HN
        go_wp2_with fail
        go_ret
        refine ⟨A3, n3, c3, rfl, ?_, ?_, HB.out⟩
        · rw [HN.out, HY.out]
        · rw [← HY.out]; exact HO.out

end Go.Proofs.YtlchipjckgaclaaDoor
