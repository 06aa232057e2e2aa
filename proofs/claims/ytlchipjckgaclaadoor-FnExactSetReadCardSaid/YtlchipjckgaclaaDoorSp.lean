/- Texts cut into words: strings.Split and strings.Cut of the shelf, l15Cut and l15Find of the reference. -/
import Derived.Test.YtlchipjckgaclaaDoorSo
import Derived.Test.YtlchipjckgaclaaDoorTw
import Derived.Test.YtlchipjckgaclaaDoorShelf5
namespace Go.Proofs.YtlchipjckgaclaaDoor
set_option linter.unusedSimpArgs false
set_option linter.unusedVariables false
set_option maxRecDepth 100000
open Go.RowKit

abbrev strsV (ws : List (List UInt8)) : List Value := ws.map fun l => .string (str l)
theorem str_of (t : ByteArray) : str t.data.toList = t := ByteArray.ext (by simp [str])
theorem str_inj {a b : List UInt8} (h : str a = str b) : a = b := by
  have := congrArg (fun t : ByteArray => t.data.toList) h
  simpa [str] using this
theorem str_data (a : List UInt8) : (str a).data.toList = a := by simp [str]
theorem ext_str (t : ByteArray) (a b : Nat) : t.extract a b = str ((t.data.toList.take b).drop a) := by
  rw [← str_of (t.extract a b)]
  congr 1
  rw [ByteArray.data_extract, Array.toList_extract]
  rw [List.extract_eq_take_drop, List.drop_take]
theorem own_empty_str (w : World) : (w.alloc (.cells #[] TStr)).ownsRow w.heap.size TStr 1 (.slice (some ⟨w.heap.size, 0, none⟩) 0 0) 0 (strsV []) :=
  own_of_blk (cs := []) (n := 0) (blk_new w #[] TStr) (by simp) (Nat.le_refl _) (by decide)

/-! ### the program's -/
theorem split_vals (t : ByteArray) (c : UInt8) : (Lib.splitB ⟨#[c]⟩ 0 (Lib.countB t ⟨#[c]⟩) t).map Value.string = strsV (cutAt c t.data.toList) := by
  have h := Lib.splitB_data ⟨#[c]⟩ 0 (Lib.countB t ⟨#[c]⟩) t
  have h2 : (Lib.splitB ⟨#[c]⟩ 0 (Lib.countB t ⟨#[c]⟩) t).map (·.data.toList) = cutAt c t.data.toList := h.trans (split_cut c _)
  rw [strsV, ← h2, List.map_map]
  exact List.map_congr_left fun x _ => by simp [str_of]
theorem split_len (t : ByteArray) (c : UInt8) : Lib.countB t ⟨#[c]⟩ + 1 = (cutAt c t.data.toList).length := by
  have h := Lib.splitB_all ⟨#[c]⟩ (Nat.le_refl _) 0 _ t rfl
  have h2 := congrArg List.length (split_vals t c)
  rw [List.length_map, List.length_map, h] at h2
  exact h2
theorem iSplit_c (t : ByteArray) (c : UInt8) (m : Int) (w : World) (hs : t.size ≤ 1048576) (hm : w.cell? ⟨0, 0, none⟩ = some (.int .i64 m)) :
    Calls Tryd.prog 63 #[.string t, .string ⟨#[c]⟩] w fun e w' => ∃ g, e = .returned (.slice (some ⟨g, 0, none⟩) (cutAt c t.data.toList).length (cutAt c t.data.toList).length) ∧ w'.ownsRow w.heap.size TStr 1 (.slice (some ⟨g, 0, none⟩) (cutAt c t.data.toList).length (cutAt c t.data.toList).length) (cutAt c t.data.toList).length (strsV (cutAt c t.data.toList)) ∧ Below w.heap.size w w' :=
  (Tryd.strings_Split t ⟨#[c]⟩ m w (by omega) hm (Nat.le_refl _)).mono fun e w' ⟨h1, h2⟩ => by
    rw [split_vals] at h2
    have hl := split_len t c
    have hc := cutAt_len c t.data.toList
    rw [bytes_len] at hc
    refine ⟨w.heap.size, ?_, ?_, by rw [h2]; exact below_alloc (Below.refl _ _) _⟩
    · rw [h1, ← hl]; first | done | rfl | simp
    · rw [h2]
      exact own_of_blk (cs := strsV (cutAt c t.data.toList)) (blk_new w _ TStr) (by simp [strsV]) (Nat.le_refl _) (by unfold maxLen; omega)
def cutV (t : ByteArray) (c : UInt8) : Value :=
  if Lib.indexByte t.data.toList c < 0 then .tuple #[.string t, .string (str []), .bool false]
  else .tuple #[.string (str (t.data.toList.take (Lib.indexByte t.data.toList c).toNat)), .string (str (t.data.toList.drop ((Lib.indexByte t.data.toList c).toNat + 1))), .bool true]
theorem iCut_c (t : ByteArray) (c : UInt8) (m : Int) (w : World) (hs : t.size ≤ 1048576) (hm : w.cell? ⟨0, 0, none⟩ = some (.int .i64 m)) :
    Calls Tryd.prog 64 #[.string t, .string ⟨#[c]⟩] w fun e w' => e = .returned (cutV t c) ∧ Below w.heap.size w w' :=
  (Tryd.strings_Cut t ⟨#[c]⟩ m w (by omega) hm).mono fun e w' ⟨h1, n, h2⟩ => by
    refine ⟨?_, by rw [h2]; exact below_drewN (Below.refl _ _) n⟩
    rw [h1]
    have hi : Lib.index t.data.toList [c] = Lib.indexByte t.data.toList c := Lib.index_one _ _
    show Ending.returned (.tuple #[.string ⟨(Lib.cut t.data.toList [c]).1.toArray⟩, .string ⟨(Lib.cut t.data.toList [c]).2.1.toArray⟩, .bool (Lib.cut t.data.toList [c]).2.2]) = _
    unfold cutV Lib.cut
    rw [hi]
    by_cases h : Lib.indexByte t.data.toList c < 0
    · rw [if_neg (by omega), if_pos h]
      rfl
    · rw [if_pos (by omega), if_neg h]
      rfl

/-! ### the reference's -/
set_option maxHeartbeats 1000000 in
theorem sFind_c (t : ByteArray) (c : UInt8) (w : World) (hs : t.size ≤ 1048576) :
    Calls Tryd.prog 61 #[.string t, .int .u8 (c.toNat : Int)] w fun e w' => e = .returned (.int .i64 (Lib.indexByte t.data.toList c)) ∧ w = w' := by
  have HL := Lib.hid (bytes_len t)
  go_enter Tryd.func61, Tryd.ntmps61
  go_wp2_with fail
  go_loopg [5] t.size (fun n v5 wr => ∃ i : Nat, i + n = t.size ∧ v5 = .int .i64 i ∧ Hid (c ∉ t.data.toList.take i) ∧ w = wr)
  case atStart => exact ⟨0, by omega, rfl, by show c ∉ _; simp, rfl⟩
  case round =>
    obtain ⟨i, hi, rfl, HN, rfl⟩ := hrel
    by_cases hlt : i < t.size
    · have i0 : (0 : Int) ≤ (i : Int) := by omega
      have i1 : (i : Int) < (t.size : Int) := by omega
      have HBI := Lib.hid (bytes_get hlt)
      by_cases he : t[i] = c
      · have e0 : ((t[i].toNat : Int) == (c.toNat : Int)) = true := by rw [he]; simp
        have E : Hid (Lib.indexByte t.data.toList c = (i : Int)) := by
          show _ = _
          have h1 : t.data.toList = t.data.toList.take i ++ c :: t.data.toList.drop (i + 1) := by
            have h2 : i < t.data.toList.length := by rw [HL.out]; exact hlt
            have h3 : t.data.toList[i] = c := by
              have := HBI.out
              rw [List.getElem?_eq_getElem h2, he] at this
              injection this
            rw [← h3, ← List.drop_eq_getElem_cons h2, List.take_append_drop]
          rw [h1, at_app _ HN.out, List.length_take, HL.out]
          omega
        clear he
        go_wp2_with fail
        go_ret
        exact ⟨by rw [E.out]; rfl, rfl⟩
      · have e0 : ((t[i].toNat : Int) == (c.toNat : Int)) = false := by
          rw [beq_eq_false_iff_ne]
          intro h
          exact he (UInt8.toNat_inj.1 (by omega))
        have HE := Lib.hid he
        clear he
        go_wp2_with fail
        go_roundg (gk - 1)
        case measure => omega
        case rel =>
          refine ⟨i + 1, by omega, by go_num, ?_, rfl⟩
          show c ∉ _
          rw [List.take_add_one, HBI.out]
          simp only [Option.toList_some, List.mem_append, List.mem_singleton]
          rintro (h | h)
          · exact HN.out h
          · exact HE.out h.symm
    · have E : Hid (Lib.indexByte t.data.toList c = -1) := at_none (by
        have := HN.out
        rwa [List.take_of_length_le (by rw [HL.out]; omega)] at this)
      go_wp2_with fail
      go_ret
      exact ⟨by rw [E.out]; rfl, rfl⟩

def CutSt (c : UInt8) (l : List UInt8) (i fr : Nat) (ws : List (List UInt8)) : Prop :=
  fr ≤ i ∧ ws.length ≤ i ∧ (i ≤ l.length → cutAt c l = ws ++ cutAt c (l.drop fr) ∧ c ∉ (l.take i).drop fr) ∧ (i = l.length + 1 → ws = cutAt c l)
theorem CutSt.start (c : UInt8) (l : List UInt8) : CutSt c l 0 0 [] := ⟨Nat.le_refl _, Nat.le_refl _, fun _ => ⟨rfl, by simp⟩, fun h => by omega⟩
theorem take_drop_snoc {l : List UInt8} {i fr : Nat} {b : UInt8} (hf : fr ≤ i) (h : l[i]? = some b) : (l.take (i + 1)).drop fr = (l.take i).drop fr ++ [b] := by
  have hi := (List.getElem?_eq_some_iff.1 h).1
  rw [List.take_add_one, h, List.drop_append_of_le_length (by rw [List.length_take]; omega)]
  rfl
theorem CutSt.no {c b : UInt8} {l : List UInt8} {i fr : Nat} {ws : List (List UInt8)} (h : CutSt c l i fr ws) (hb : l[i]? = some b) (hn : b ≠ c) : CutSt c l (i + 1) fr ws := by
  have hi := (List.getElem?_eq_some_iff.1 hb).1
  obtain ⟨h1, h2, h3, _⟩ := h
  refine ⟨by omega, by omega, fun _ => ⟨(h3 (by omega)).1, ?_⟩, fun h => by omega⟩
  rw [take_drop_snoc h1 hb]
  intro hm
  rcases List.mem_append.1 hm with hm | hm
  · exact (h3 (by omega)).2 hm
  · exact hn (List.mem_singleton.1 hm).symm
theorem drop_take_drop {l : List UInt8} {i fr : Nat} (hf : fr ≤ i) : l.drop fr = (l.take i).drop fr ++ l.drop i := by
  conv => lhs; rw [← List.take_append_drop i l]
  rcases Nat.le_total i l.length with h | h
  · rw [List.drop_append_of_le_length (by rw [List.length_take]; omega)]
  · rw [List.take_of_length_le h, List.drop_of_length_le h, List.append_nil, List.append_nil]
theorem CutSt.hit {c : UInt8} {l : List UInt8} {i fr : Nat} {ws : List (List UInt8)} (h : CutSt c l i fr ws) (hb : l[i]? = some c) : CutSt c l (i + 1) (i + 1) (ws ++ [(l.take i).drop fr]) := by
  have hi := (List.getElem?_eq_some_iff.1 hb).1
  obtain ⟨h1, h2, h3, _⟩ := h
  obtain ⟨h4, h5⟩ := h3 (by omega)
  have hd : l.drop i = c :: l.drop (i + 1) := by rw [List.drop_eq_getElem_cons hi]; congr 1; rw [List.getElem?_eq_getElem hi] at hb; injection hb
  refine ⟨Nat.le_refl _, by simp; omega, fun _ => ⟨?_, by rw [List.drop_of_length_le (by rw [List.length_take]; omega)]; simp⟩, fun h => by omega⟩
  rw [h4, drop_take_drop h1, hd, cutAt_app _ h5]
  simp
theorem CutSt.fin {c : UInt8} {l : List UInt8} {i fr : Nat} {ws : List (List UInt8)} (h : CutSt c l i fr ws) (hb : i = l.length) : CutSt c l (i + 1) (i + 1) (ws ++ [(l.take i).drop fr]) := by
  obtain ⟨h1, h2, h3, _⟩ := h
  obtain ⟨h4, h5⟩ := h3 (by omega)
  refine ⟨Nat.le_refl _, by simp; omega, fun h => by omega, fun _ => ?_⟩
  have hd : l.drop fr = (l.take i).drop fr := by rw [drop_take_drop h1, List.drop_of_length_le (Nat.le_of_eq hb.symm), List.append_nil]
  rw [h4, hd, cutAt_no h5]

set_option maxHeartbeats 2000000 in
theorem sCut_c (t : ByteArray) (c : UInt8) (w : World) (hs : t.size ≤ 1048576) :
    Calls Tryd.prog 60 #[.string t, .int .u8 (c.toNat : Int)] w fun e w' => ∃ A d, e = .returned (.slice A (cutAt c t.data.toList).length d) ∧ w'.ownsRow w.heap.size TStr 1 (.slice A (cutAt c t.data.toList).length d) (cutAt c t.data.toList).length (strsV (cutAt c t.data.toList)) ∧ Below w.heap.size w w' := by
  have HL := Lib.hid (bytes_len t)
  obtain ⟨iS, hiS, hzS0, hzS1, hzS2⟩ := info_parts infoStr
  have HO0 := Lib.hid (own_empty_str w)
  have HB0 := Lib.hid (below_alloc (Below.refl w.heap.size w) (.cells #[] TStr))
  go_enter Tryd.func60, Tryd.ntmps60
  go_wp2_with fail
  go_loopg [5, 6, 7] (t.size + 1) (fun n v5 v6 v7 wr => ∃ i fr : Nat, i + n = t.size + 1 ∧ v7 = .int .i64 i ∧ v6 = .int .i64 fr ∧ ∃ (ws : List (List UInt8)) (A2 : Option Addr) (c2 : Nat), v5 = .slice A2 ws.length c2 ∧ Hid (CutSt c t.data.toList i fr ws) ∧ Hid (wr.ownsRow w.heap.size TStr 1 (.slice A2 ws.length c2) ws.length (strsV ws)) ∧ Hid (Below w.heap.size w wr))
  case atStart => exact ⟨0, 0, by omega, rfl, rfl, [], _, _, rfl, CutSt.start _ _, HO0, HB0⟩
  case round =>
    clear HO0 HB0
    obtain ⟨i, fr, hi, rfl, rfl, ws, A2, c2, rfl, HC, HO, HB⟩ := hrel
    have f0 : fr ≤ i := HC.out.1
    have f1 : ws.length ≤ i := HC.out.2.1
    by_cases hlt : i ≤ t.size
    · have i0 : (0 : Int) ≤ (i : Int) := by omega
      have i2 : (i : Int) ≤ (t.size : Int) := by omega
      have hn1 : ws.length + 1 ≤ maxLen := by unfold maxLen; omega
      have hn2 : (ws.length + 1) * 16 ≤ 140737488355328 := by omega
      have hn3 := HB.out.size
      by_cases hend : i = t.size
      · have e0 : ((i : Int) == (t.size : Int)) = true := by rw [hend]; simp
        have HC2 := Lib.hid (HC.out.fin (by rw [HL.out]; exact hend))
        clear hend
        go_wp2_with (at_builtin; refine wpList_append_row (by rfl) (.tmp 26) (.tmp 31) 63 (by rfl) w.heap.size TStr iS (.string ⟨#[]⟩) 1 16 Tryd.underlying63 hiS hzS0 hzS1 hzS2 rfl (by decide) (.slice A2 ws.length c2) ws.length (strsV ws) (by rfl) (own_below HO.out (below_alloc (Below.refl _ _) _)) (some ⟨wr.heap.size, 0, none⟩) 1 1 [.string (t.extract fr i)] (by rfl) (.inr ⟨⟨wr.heap.size, 0, none⟩, rfl, Nat.zero_le _, new_cells wr [.string (t.extract fr i)] TStr⟩) rfl (fun u hu => by rw [List.mem_singleton.1 hu]; rfl) hn1 hn2 (by simp; omega) _ rfl (ws.length + 1) rfl ?_; intro A5 c5 wE hown hgrow hat; have HE := Lib.hid hown; have BE := Lib.hid ((below_alloc HB.out _).grown hgrow (by simp; omega) (fun q hq => (own_base HO.out q hq).1)); clear hown hgrow hat)
        go_roundg (gk - 1)
        case measure => omega
        case rel =>
          refine ⟨i + 1, i + 1, by omega, by go_num, by go_num, ws ++ [(t.data.toList.take i).drop fr], A5, c5, ?_, HC2, ?_, BE⟩
          · rw [List.length_append]; rfl
          · show World.ownsRow _ _ _ _ _ _ _
            have e : strsV (ws ++ [(t.data.toList.take i).drop fr]) = strsV ws ++ [.string (t.extract fr i)] := by rw [ext_str]; simp [strsV]
            rw [e, List.length_append]
            exact HE.out
      · have e0 : ((i : Int) == (t.size : Int)) = false := by rw [beq_eq_false_iff_ne]; omega
        have i1 : (i : Int) < (t.size : Int) := by omega
        have hlt2 : i < t.size := by omega
        have HBI := Lib.hid (bytes_get hlt2)
        by_cases he : t[i] = c
        · have e1 : ((t[i].toNat : Int) == (c.toNat : Int)) = true := by rw [he]; simp
          have HC2 := Lib.hid (HC.out.hit (by rw [HBI.out, he]))
          clear he hend
          go_wp2_with (at_builtin; refine wpList_append_row (by rfl) (.tmp 26) (.tmp 31) 63 (by rfl) w.heap.size TStr iS (.string ⟨#[]⟩) 1 16 Tryd.underlying63 hiS hzS0 hzS1 hzS2 rfl (by decide) (.slice A2 ws.length c2) ws.length (strsV ws) (by rfl) (own_below HO.out (below_alloc (Below.refl _ _) _)) (some ⟨wr.heap.size, 0, none⟩) 1 1 [.string (t.extract fr i)] (by rfl) (.inr ⟨⟨wr.heap.size, 0, none⟩, rfl, Nat.zero_le _, new_cells wr [.string (t.extract fr i)] TStr⟩) rfl (fun u hu => by rw [List.mem_singleton.1 hu]; rfl) hn1 hn2 (by simp; omega) _ rfl (ws.length + 1) rfl ?_; intro A5 c5 wE hown hgrow hat; have HE := Lib.hid hown; have BE := Lib.hid ((below_alloc HB.out _).grown hgrow (by simp; omega) (fun q hq => (own_base HO.out q hq).1)); clear hown hgrow hat)
          go_roundg (gk - 1)
          case measure => omega
          case rel =>
            refine ⟨i + 1, i + 1, by omega, by go_num, by go_num, ws ++ [(t.data.toList.take i).drop fr], A5, c5, ?_, HC2, ?_, BE⟩
            · rw [List.length_append]; rfl
            · show World.ownsRow _ _ _ _ _ _ _
              have e : strsV (ws ++ [(t.data.toList.take i).drop fr]) = strsV ws ++ [.string (t.extract fr i)] := by rw [ext_str]; simp [strsV]
              rw [e, List.length_append]
              exact HE.out
        · have e1 : ((t[i].toNat : Int) == (c.toNat : Int)) = false := by
            rw [beq_eq_false_iff_ne]
            intro h
            exact he (UInt8.toNat_inj.1 (by omega))
          have HC2 := Lib.hid (HC.out.no HBI.out he)
          clear he hend
          go_wp2_with fail
          go_roundg (gk - 1)
          case measure => omega
          case rel => exact ⟨i + 1, fr, by omega, by go_num, rfl, ws, A2, c2, rfl, HC2, HO, HB⟩
    · have hw : ws = cutAt c t.data.toList := HC.out.2.2.2 (by rw [HL.out]; omega)
      subst hw
      go_wp2_with fail
      go_ret
      exact ⟨_, _, rfl, HO.out, HB.out⟩

end Go.Proofs.YtlchipjckgaclaaDoor
