/- SetRead of the program, walked. -/
import Derived.Test.YtlchipjckgaclaaDoorSq
import Derived.Test.YtlchipjckgaclaaDoorW1
import Derived.Test.YtlchipjckgaclaaDoorCs
namespace Go.Proofs.YtlchipjckgaclaaDoor
set_option linter.unusedSimpArgs false
set_option linter.unusedVariables false
set_option maxRecDepth 100000
open Go.RowKit

def MaxL (w : World) : Prop := ∃ m : Int, w.cell? ⟨0, 0, none⟩ = some (.int .i64 m)
theorem MaxL.below {w w' : World} (h : MaxL w) (hb : Below w.heap.size w w') : MaxL w' := by
  obtain ⟨m, hm⟩ := h
  exact ⟨m, (hb.cell (World.block_lt_of_cell? w _ hm)).trans hm⟩
theorem cutV_no {x : List UInt8} (h : Lib.indexByte x 45 < 0) : cutV (str x) 45 = .tuple #[.string (str x), .string (str []), .bool false] := by
  unfold cutV
  rw [str_data, if_pos h]
theorem cutV_at {x : List UInt8} {j : Nat} (h : Lib.indexByte x 45 = j) : cutV (str x) 45 = .tuple #[.string (str (x.take j)), .string (str (x.drop (j + 1))), .bool true] := by
  unfold cutV
  rw [str_data, if_neg (by omega), h]
  rfl
theorem natI_none {l : List UInt8} (h : natural l = none) : natI l = none := by unfold natI; rw [h]; rfl
theorem natI_some {l : List UInt8} {m : Nat} (h : natural l = some m) : natI l = some (m : Int) := by unfold natI; rw [h]; rfl
theorem iSplit44_c (t : ByteArray) (w : World) (hs : t.size ≤ 1048576) (hm : MaxL w) :
    Calls Tryd.prog 63 #[.string t, .string ⟨#[44]⟩] w fun e w' => ∃ g, e = .returned (.slice (some ⟨g, 0, none⟩) (cutAt 44 t.data.toList).length (cutAt 44 t.data.toList).length) ∧ w'.ownsRow w.heap.size TStr 1 (.slice (some ⟨g, 0, none⟩) (cutAt 44 t.data.toList).length (cutAt 44 t.data.toList).length) (cutAt 44 t.data.toList).length (strsV (cutAt 44 t.data.toList)) ∧ Below w.heap.size w w' :=
  hm.elim fun m hm => iSplit_c t 44 m w hs hm
theorem iCut45_c (t : ByteArray) (w : World) (hs : t.size ≤ 1048576) (hm : MaxL w) :
    Calls Tryd.prog 64 #[.string t, .string ⟨#[45]⟩] w fun e w' => e = .returned (cutV t 45) ∧ Below w.heap.size w w' :=
  hm.elim fun m hm => iCut_c t 45 m w hs hm

set_option maxHeartbeats 4000000 in
theorem iSetRead_c (t : ByteArray) (w : World) (hs : t.size ≤ 1048576) (hp : Pow10 w) (hm : MaxL w) :
    Calls Tryd.prog 27 #[.string t] w (ReadPost (readSet t.data.toList) w) := by
  have HP := Lib.hid hp
  have HM := Lib.hid hm
  clear hp hm
  have HL := Lib.hid (bytes_len t)
  obtain ⟨i0, hi, hz0, hz1, hz2⟩ := info_parts infoSp
  go_enter Tryd.func27, Tryd.ntmps27
  by_cases hno : t.data.toList = [110, 111]
  · have d0 := txt_is hno
    have E : Hid (readSet t.data.toList = some []) := by show _ = _; rw [hno]; exact read_no _
    clear hno
    go_wp2_with fail
    exact bodyPost_ret (v := .tuple #[.slice none 0 0, .bool true]) (by simp [results, Tryd.results27, go_sem]) rfl (ReadPost.some E.out (OwnSp.nil _ _) (Below.refl _ _))
  have d0 := txt_ne hno
  by_cases hlong : 1200 < t.size
  · have d1 : (1200 : Int) < (t.size : Int) := by omega
    have E : Hid (readSet t.data.toList = none) := read_long hno (by rw [HL.out]; exact hlong)
    clear hno hlong
    go_wp2_with fail
    exact bodyPost_ret (v := .tuple #[.slice none 0 0, .bool false]) (by simp [results, Tryd.results27, go_sem]) rfl (ReadPost.none E.out (Below.refl _ _))
  have d1 : ¬ (1200 : Int) < (t.size : Int) := by omega
  have HNO := Lib.hid hno
  have HNL : Hid (¬ 1200 < t.data.toList.length) := by show ¬ _; rw [HL.out]; exact hlong
  clear hno
  go_wp2_with fail
  refine (iSplit44_c t w hs HM.out).mono ?_
  rintro e w1 ⟨g1, rfl, hown, b1⟩
  obtain ⟨W, hW⟩ : ∃ W, W = cutAt 44 t.data.toList := ⟨_, rfl⟩
  have hWp : 0 < W.length := by rw [hW]; exact List.length_pos_iff.2 (cutAt_pos _ _)
  have hWl : W.length ≤ 1201 := by have := cutAt_len 44 t.data.toList; rw [hW]; rw [HL.out] at this; omega
  have HWM : Hid (∀ v ∈ W, v.length ≤ 1200) := fun v hv => by
    have := cutAt_mem 44 t.data.toList v (by rw [← hW]; exact hv)
    have := HNL.out
    omega
  rw [← hW] at hown ⊢
  have HWW := Lib.hid hW
  clear hW
  have HS0 := Lib.hid hown
  have HB1 := Lib.hid b1
  clear hown b1
  go_wp2_with fail
  go_loopg [4, 22] W.length (fun n v4 v22 wr => ∃ k : Nat, k + n = W.length ∧ v22 = .int .i64 k ∧ ∃ xs : List Sp, Hid (OwnSp wr w.heap.size v4 xs) ∧ Hid (RdSt rdI W k xs) ∧ Hid (Below w.heap.size w wr) ∧ Hid (wr.ownsRow w.heap.size TStr 1 (.slice (some ⟨g1, 0, none⟩) W.length W.length) W.length (strsV W)) ∧ Hid (∀ b, v4.ownBlock = some b → b ≠ g1))
  case atStart => exact ⟨0, by omega, rfl, [], OwnSp.nil _ _, RdSt.start _ _, HB1, HS0, fun b hb => by cases hb⟩
  case round =>
    clear HB1 HS0
    obtain ⟨k, hk, rfl, xs, HO, HR, HB, HS, HA⟩ := hrel
    by_cases hlt : k < W.length
    · have k0 : (0 : Int) ≤ (k : Int) := by omega
      have k1 : (k : Int) < (W.length : Int) := by omega
      obtain ⟨x, hx⟩ : ∃ x, W[k]? = some x := ⟨_, List.getElem?_eq_getElem hlt⟩
      have HW := Lib.hid hx
      have hxl : x.length ≤ 1200 := HWM.out x (List.mem_of_getElem? hx)
      have hxs : (str x).size ≤ 1048576 := by rw [str_size]; omega
      have c0 : wr.cell? ⟨g1, k, none⟩ = some (.string (str x)) := by
        rw [HS.out.cellAt k (by omega)]
        unfold strsV
        rw [List.getElem?_map, hx]
        rfl
      clear hx
      go_wp2_with fail
      refine (iCut45_c (str x) wr hxs (HM.out.below HB.out)).mono ?_
      rintro e w2 ⟨rfl, b2⟩
      replace HO := Lib.hid (HO.out.below b2)
      replace HB := Lib.hid (below_then HB.out b2)
      replace HS := Lib.hid (own_below HS.out b2)
      clear c0 b2
      obtain ⟨wr', hwr⟩ : ∃ v, v = wr := ⟨_, rfl⟩
      clear hwr
      clear wr
      obtain ⟨wr, hwr⟩ : ∃ v, v = w2 := ⟨_, rfl⟩
      rw [← hwr] at HO HB HS ⊢
      clear hwr
      clear w2
      by_cases hneg : Lib.indexByte x 45 < 0
      · have HX0 := Lib.hid (rd_none (f := natI) hneg)
        rw [cutV_no hneg]
        clear hneg
        go_wp2_with fail
        refine (iNatural_c (str x) wr (by omega)).mono ?_
        rintro e w2 ⟨rfl, rfl⟩
        rw [str_data]
        cases ho : natural x with
        | none =>
          have E : Hid (readSet t.data.toList = none) := read_bad HNO.out (by rw [← HWW.out]; exact RdSt.bad HW.out (by show rdOf natI x = none; rw [HX0.out, natI_none ho]; rfl))
          clear ho
          go_wp2_with fail
          exact bodyPost_ret (v := .tuple #[.slice none 0 0, .bool false]) (by simp [results, Tryd.results27, go_sem]) rfl (ReadPost.none E.out HB.out)
        | some m =>
          have HX : Hid (rdI x = some ⟨m, m⟩) := by show rdOf natI x = _; rw [HX0.out, natI_some ho]; rfl
          clear ho HX0
          have hrl := HR.out.len
          have hn1 : xs.length + 1 ≤ maxLen := by unfold maxLen; omega
          have hn2 : (xs.length + 1) * 16 ≤ 140737488355328 := by omega
          have hsz := HB.out.size
          have hgs : g1 < wr.heap.size := ((own_base HS.out) g1 rfl).2
          go_wp2_with (at_builtin; refine wpList_append_own_at _ rfl (.tmp 51) (.tmp 55) 25 rfl w.heap.size TSp i0 (.agg #[.int .i64 0, .int .i64 0]) 2 16 Tryd.underlying25 hi hz0 hz1 hz2 rfl (by decide) u4 _ _ rfl (HO.out.own.alloc _) ⟨wr.heap.size, 0, none⟩ 1 1 [.int .i64 (m : Int), .int .i64 (m : Int)] rfl rfl (new_cells wr [.int .i64 (m : Int), .int .i64 (m : Int)] TSp) (two_one _ _) hn1 hn2 (by simp; omega) ?_; intro v' w2 hown' hgrow _ hat)
          have hbs := own_base HO.out.own
          go_roundg (gk - 1)
          case measure => omega
          case rel =>
            refine ⟨k + 1, by omega, by go_num, xs ++ [(⟨(m : Int), (m : Int)⟩ : Sp)], OwnSp.snoc hown', HR.out.step HW.out HX.out, (below_alloc HB.out _).grown hgrow (by simp; omega) (fun q hq => (hbs q hq).1), own_move (own_below HS.out (below_alloc (Below.refl wr.heap.size wr) _)) (fun b hb => hgrow.block b ?_ ?_), fun b hb => ?_⟩
            · have : b = g1 := by injection hb with hb; exact hb.symm
              subst this
              simp
              omega
            · have : b = g1 := by injection hb with hb; exact hb.symm
              subst this
              intro h
              exact HA.out _ h.symm rfl
            · rcases hat with h | h
              · exact HA.out b (h.symm.trans hb)
              · rw [h] at hb
                injection hb with hb
                simp at hb
                omega
      · have HX0 := Lib.hid (rd_some (f := natI) hneg)
        have hj0 : ∃ j : Nat, Lib.indexByte x 45 = j ∧ j < x.length := by
          have h0 := Lib.indexByte_ge x 45
          obtain ⟨j, hj⟩ : ∃ j : Nat, Lib.indexByte x 45 = j := ⟨(Lib.indexByte x 45).toNat, by omega⟩
          exact ⟨j, hj, (List.getElem?_eq_some_iff.1 (Lib.indexByte_some hj).1).1⟩
        obtain ⟨j, hj, hjl⟩ := hj0
        rw [hj, show ((j : Nat) : Int).toNat = j by omega] at HX0
        rw [cutV_at hj]
        clear hneg hj
        go_wp2_with fail
        refine (iNatural_c _ wr (by rw [str_size, List.length_take]; omega)).mono ?_
        rintro e w2 ⟨rfl, rfl⟩
        rw [str_data]
        go_wp2_with fail
        refine (iNatural_c _ wr (by rw [str_size, List.length_drop]; omega)).mono ?_
        rintro e w2 ⟨rfl, rfl⟩
        rw [str_data]
        cases ho1 : natural (x.take j) with
        | none =>
          have E : Hid (readSet t.data.toList = none) := read_bad HNO.out (by rw [← HWW.out]; exact RdSt.bad HW.out (by show rdOf natI x = none; rw [HX0.out, natI_none ho1]))
          obtain ⟨o2, ho2⟩ : ∃ o, o = natural (x.drop (j + 1)) := ⟨_, rfl⟩
          rw [← ho2]
          clear ho1 ho2
          go_wp2_with fail
          exact bodyPost_ret (v := .tuple #[.slice none 0 0, .bool false]) (by simp [results, Tryd.results27, go_sem]) rfl (ReadPost.none E.out HB.out)
        | some m1 =>
          cases ho2 : natural (x.drop (j + 1)) with
          | none =>
            have E : Hid (readSet t.data.toList = none) := read_bad HNO.out (by rw [← HWW.out]; exact RdSt.bad HW.out (by show rdOf natI x = none; rw [HX0.out, natI_some ho1, natI_none ho2]))
            clear ho1 ho2
            go_wp2_with fail
            exact bodyPost_ret (v := .tuple #[.slice none 0 0, .bool false]) (by simp [results, Tryd.results27, go_sem]) rfl (ReadPost.none E.out HB.out)
          | some m2 =>
            have HX : Hid (rdI x = some ⟨m1, m2⟩) := by show rdOf natI x = _; rw [HX0.out, natI_some ho1, natI_some ho2]
            clear ho1 ho2 HX0 hjl
            have hrl := HR.out.len
            have hn1 : xs.length + 1 ≤ maxLen := by unfold maxLen; omega
            have hn2 : (xs.length + 1) * 16 ≤ 140737488355328 := by omega
            have hsz := HB.out.size
            have hgs : g1 < wr.heap.size := ((own_base HS.out) g1 rfl).2
            go_wp2_with (at_builtin; refine wpList_append_own_at _ rfl (.tmp 51) (.tmp 55) 25 rfl w.heap.size TSp i0 (.agg #[.int .i64 0, .int .i64 0]) 2 16 Tryd.underlying25 hi hz0 hz1 hz2 rfl (by decide) u4 _ _ rfl (HO.out.own.alloc _) ⟨wr.heap.size, 0, none⟩ 1 1 [.int .i64 (m1 : Int), .int .i64 (m2 : Int)] rfl rfl (new_cells wr [.int .i64 (m1 : Int), .int .i64 (m2 : Int)] TSp) (two_one _ _) hn1 hn2 (by simp; omega) ?_; intro v' w2 hown' hgrow _ hat)
            have hbs := own_base HO.out.own
            go_roundg (gk - 1)
            case measure => omega
            case rel =>
              refine ⟨k + 1, by omega, by go_num, xs ++ [(⟨(m1 : Int), (m2 : Int)⟩ : Sp)], OwnSp.snoc hown', HR.out.step HW.out HX.out, (below_alloc HB.out _).grown hgrow (by simp; omega) (fun q hq => (hbs q hq).1), own_move (own_below HS.out (below_alloc (Below.refl wr.heap.size wr) _)) (fun b hb => hgrow.block b ?_ ?_), fun b hb => ?_⟩
              · have : b = g1 := by injection hb with hb; exact hb.symm
                subst this
                simp
                omega
              · have : b = g1 := by injection hb with hb; exact hb.symm
                subst this
                intro h
                exact HA.out _ h.symm rfl
              · rcases hat with h | h
                · exact HA.out b (h.symm.trans hb)
                · rw [h] at hb
                  injection hb with hb
                  simp at hb
                  omega
    · have hkl : k = W.length := by omega
      subst hkl
      have HE := Lib.hid HR.out.fin
      have H64 := Lib.hid (rdSt_in (fun w x h => rdI_in h) HR.out)
      have hrl := HR.out.len
      have HRE := Lib.hid (read_end (f := rdI) HNO.out HNL.out (by rw [← HWW.out]; exact HE.out))
      obtain ⟨A, c, rfl, hs2⟩ := HO.out.sps
      go_wp2_with fail
      refine (iSetOk_c A c xs wr hs2).mono ?_
      rintro e w3 ⟨rfl, b3⟩
      by_cases hok : setOk xs = true
      · rw [hok] at HRE ⊢
        go_wp2_with fail
        refine (iSetText_c A c xs w3 (hs2.below b3) H64.out (by omega) (HP.out.below (below_then HB.out b3))).mono ?_
        rintro e w4 ⟨rfl, b4⟩
        have B4 := Lib.hid (below_then HB.out (below_then b3 b4))
        have HO4 := Lib.hid (HO.out.below (below_then b3 b4))
        have HS4 := Lib.hid (hs2.below (below_then b3 b4))
        by_cases he : setTxt xs = t.data.toList
        · have HF : Hid (readSet t.data.toList = some xs) := by show readOf rdI _ = _; rw [HRE.out, he]; simp
          rw [he, str_of]
          clear he HRE HE
          go_wp2_with fail
          refine (copiedSpan_c A c _ (spcs xs) _ HS4.out.row (spcs_length _) (spcs_one _) (by omega)).mono ?_
          rintro e w5 ⟨v5, rfl, o5, b5⟩
          have B5 := Lib.hid (below_then B4.out b5)
          have O5 : Hid (OwnSp w5 w.heap.size v5 xs) := ⟨own_lower o5 B4.out.size, HS4.out.len⟩
          clear o5 b5
          go_wp2_with fail
          exact bodyPost_ret (v := .tuple #[v5, .bool true]) (by simp [results, Tryd.results27, go_sem]) rfl (ReadPost.some HF.out O5.out B5.out)
        · have HF : Hid (readSet t.data.toList = none) := by show readOf rdI _ = _; rw [HRE.out, decide_eq_false he]; rfl
          obtain ⟨T, hT⟩ : ∃ T, T = str (setTxt xs) := ⟨_, rfl⟩
          have hne : T ≠ t := fun e => he (str_inj (by rw [← hT, e, str_of]))
          have hne2 : T.toList ≠ t.toList := fun e => hne (ByteArray.ext (Array.toList_inj.1 (by rw [← ByteArray.toList_eq, ← ByteArray.toList_eq]; exact e)))
          have q0 : (T.toList != t.toList) = true := by rw [bne_iff_ne]; exact hne2
          have q1 : (T.toList == t.toList) = false := by rw [beq_eq_false_iff_ne]; exact hne2
          have q2 : decide (T.toList = t.toList) = false := decide_eq_false hne2
          rw [← hT]
          clear he HRE HE hT
          go_wp2_with fail
          exact bodyPost_ret (v := .tuple #[.slice none 0 0, .bool false]) (by simp [results, Tryd.results27, go_sem]) rfl (ReadPost.none HF.out B4.out)
      · rw [eq_false_of_ne_true hok] at HRE ⊢
        go_wp2_with fail
        exact bodyPost_ret (v := .tuple #[.slice none 0 0, .bool false]) (by simp [results, Tryd.results27, go_sem]) rfl (ReadPost.none HRE.out (below_then HB.out b3))

end Go.Proofs.YtlchipjckgaclaaDoor
