/- SetRead of the reference, walked. -/
import Derived.Test.YtlchipjckgaclaaDoorSp
import Derived.Test.YtlchipjckgaclaaDoorW2
import Derived.Test.YtlchipjckgaclaaDoorW9
namespace Go.Proofs.YtlchipjckgaclaaDoor
set_option linter.unusedSimpArgs false
set_option linter.unusedVariables false
set_option maxRecDepth 100000
open Go.RowKit

abbrev readV (o : Option (List Sp)) (A : Option Addr) (d : Nat) : Value := .tuple #[.slice A (o.getD []).length d, .bool o.isSome]
def ReadPost (o : Option (List Sp)) (w : World) (e : Ending) (w' : World) : Prop := ∃ A d, e = .returned (readV o A d) ∧ OwnSp w' w.heap.size (.slice A (o.getD []).length d) (o.getD []) ∧ Below w.heap.size w w'
theorem ReadPost.none {o : Option (List Sp)} {w w' : World} (ho : o = .none) (hb : Below w.heap.size w w') : ReadPost o w (.returned (.tuple #[.slice .none 0 0, .bool false])) w' := by
  subst ho
  exact ⟨.none, 0, rfl, OwnSp.nil _ _, hb⟩
theorem ReadPost.some {o : Option (List Sp)} {xs : List Sp} {w w' : World} {v : Value} (ho : o = .some xs) (hv : OwnSp w' w.heap.size v xs) (hb : Below w.heap.size w w') : ReadPost o w (.returned (.tuple #[v, .bool true])) w' := by
  subst ho
  obtain ⟨A, c, rfl, _⟩ := hv.sps
  exact ⟨A, c, rfl, hv, hb⟩
/-- what has been read of the words so far -/
structure RdSt (f : List UInt8 → Option Sp) (ws : List (List UInt8)) (k : Nat) (xs : List Sp) : Prop where
  all : ∀ w ∈ ws.take k, (f w).isSome = true
  val : xs = (ws.take k).filterMap f
  len : xs.length ≤ k
theorem RdSt.start (f : List UInt8 → Option Sp) (ws : List (List UInt8)) : RdSt f ws 0 [] := ⟨fun w hw => by simp at hw, by simp, Nat.le_refl _⟩
theorem RdSt.step {f : List UInt8 → Option Sp} {ws : List (List UInt8)} {k : Nat} {xs : List Sp} {w : List UInt8} {x : Sp} (h : RdSt f ws k xs) (hw : ws[k]? = some w) (hx : f w = some x) : RdSt f ws (k + 1) (xs ++ [x]) := by
  obtain ⟨h1, h2, h3⟩ := h
  refine ⟨fun v hv => ?_, ?_, by simp; omega⟩
  · rw [List.take_add_one, hw] at hv
    rcases List.mem_append.1 hv with hv | hv
    · exact h1 v hv
    · simp at hv; rw [hv, hx]; rfl
  · rw [List.take_add_one, hw, List.filterMap_append, ← h2]
    simp [hx]
theorem RdSt.bad {f : List UInt8 → Option Sp} {ws : List (List UInt8)} {k : Nat} {w : List UInt8} (hw : ws[k]? = some w) (hx : f w = .none) : rdAll f ws = .none := rdAll_none (List.mem_of_getElem? hw) hx
theorem RdSt.fin {f : List UInt8 → Option Sp} {ws : List (List UInt8)} {xs : List Sp} (h : RdSt f ws ws.length xs) : rdAll f ws = some xs := by
  obtain ⟨h1, h2, _⟩ := h
  rw [List.take_length] at h1 h2
  rw [rdAll_some h1, h2]
theorem rdSt_in {f : List UInt8 → Option Sp} (hf : ∀ w x, f w = some x → in64 x.lo ∧ in64 x.hi) {ws : List (List UInt8)} {k : Nat} {xs : List Sp} (h : RdSt f ws k xs) : sp64 xs := by
  intro x hx
  rw [h.val] at hx
  obtain ⟨w, _, hw⟩ := List.mem_filterMap.1 hx
  exact hf w x hw
theorem txt_ne {t : ByteArray} {l : List UInt8} (h : t.data.toList ≠ l) : (t.toList == l) = false := by rw [ByteArray.toList_eq, beq_eq_false_iff_ne]; exact h
theorem txt_is {t : ByteArray} {l : List UInt8} (h : t.data.toList = l) : (t.toList == l) = true := by rw [ByteArray.toList_eq, beq_iff_eq]; exact h
theorem num_v {w : List UInt8} {o : Option Int} (h : numOf w = o) : numV (numOf w) = .tuple #[.int .i64 (o.getD 0), .bool o.isSome] := by rw [h]
theorem sCut44_c (t : ByteArray) (w : World) (hs : t.size ≤ 1048576) :
    Calls Tryd.prog 60 #[.string t, .int .u8 44] w fun e w' => ∃ A d, e = .returned (.slice A (cutAt 44 t.data.toList).length d) ∧ w'.ownsRow w.heap.size TStr 1 (.slice A (cutAt 44 t.data.toList).length d) (cutAt 44 t.data.toList).length (strsV (cutAt 44 t.data.toList)) ∧ Below w.heap.size w w' := sCut_c t 44 w hs
theorem sFind45_c (t : ByteArray) (w : World) (hs : t.size ≤ 1048576) :
    Calls Tryd.prog 61 #[.string t, .int .u8 45] w fun e w' => e = .returned (.int .i64 (Lib.indexByte t.data.toList 45)) ∧ w = w' := sFind_c t 45 w hs

set_option maxHeartbeats 4000000 in
theorem sSetRead_c (t : ByteArray) (w : World) (hs : t.size ≤ 1048576) :
    Calls Tryd.prog 26 #[.string t] w (ReadPost (readSet t.data.toList) w) := by
  rw [← read_same]
  have HL := Lib.hid (bytes_len t)
  obtain ⟨i0, hi, hz0, hz1, hz2⟩ := info_parts infoSp
  go_enter Tryd.func26, Tryd.ntmps26
  by_cases hno : t.data.toList = [110, 111]
  · have d0 := txt_is hno
    have E : Hid (readOf rdS t.data.toList = some []) := by show _ = _; rw [hno]; exact read_no _
    clear hno
    go_wp2_with fail
    exact bodyPost_ret (v := .tuple #[.slice (some ⟨w.heap.size, 0, none⟩) 0 0, .bool true]) (by simp [results, Tryd.results26, go_sem]) rfl (ReadPost.some E.out (own_empty w) (below_alloc (Below.refl _ _) _))
  have d0 := txt_ne hno
  by_cases hlong : 1200 < t.size
  · have d1 : (1200 : Int) < (t.size : Int) := by omega
    have E : Hid (readOf rdS t.data.toList = none) := read_long hno (by rw [HL.out]; exact hlong)
    clear hno hlong
    go_wp2_with fail
    exact bodyPost_ret (v := .tuple #[.slice none 0 0, .bool false]) (by simp [results, Tryd.results26, go_sem]) rfl (ReadPost.none E.out (below_alloc (Below.refl _ _) _))
  have d1 : ¬ (1200 : Int) < (t.size : Int) := by omega
  have HNO := Lib.hid hno
  have HNL : Hid (¬ 1200 < t.data.toList.length) := by show ¬ _; rw [HL.out]; exact hlong
  clear hno
  have HO0 := Lib.hid (own_empty w)
  obtain ⟨w0, hw0⟩ : ∃ v, v = w.alloc (.cells #[] TSp) := ⟨_, rfl⟩
  have HB0 : Hid (Below w.heap.size w w0) := by rw [hw0]; exact below_alloc (Below.refl _ _) _
  rw [← hw0] at HO0
  go_wp2_with fail
  rw [← hw0]
  refine (sCut44_c t w0 hs).mono ?_
  rintro e w1 ⟨A1, c1, rfl, hown, b1⟩
  obtain ⟨W, hW⟩ : ∃ W, W = cutAt 44 t.data.toList := ⟨_, rfl⟩
  have hWp : 0 < W.length := by rw [hW]; exact List.length_pos_iff.2 (cutAt_pos _ _)
  have hWl : W.length ≤ 1201 := by have := cutAt_len 44 t.data.toList; rw [hW]; rw [HL.out] at this; omega
  have HWM : Hid (∀ v ∈ W, v.length ≤ 1200) := fun v hv => by
    have := cutAt_mem 44 t.data.toList v (by rw [← hW]; exact hv)
    have := HNL.out
    omega
  rw [← hW] at hown ⊢
  have HWW := Lib.hid hW
  clear hW hw0
  obtain ⟨g1, cc1, e1, hg1, hc1⟩ := own_form hown hWp
  injection e1 with e11 e12 e13
  subst e11 e13
  have HS0 := Lib.hid hown
  have HB1 := Lib.hid (below_then HB0.out b1)
  have HO1 := Lib.hid (HO0.out.below b1)
  have HA0 : Hid (∀ b, (Value.slice (some ⟨w.heap.size, 0, none⟩) 0 0).ownBlock = some b → b ≠ g1) := fun b hb => by
    have hb' : w.heap.size = b := by simpa [Value.ownBlock] using hb
    have := (own_base HO0.out.own w.heap.size rfl).2
    omega
  clear hown b1 HO0 HB0
  go_wp2_with fail
  go_loopg [4, 6] W.length (fun n v4 v6 wr => ∃ k : Nat, k + n = W.length ∧ v6 = .int .i64 k ∧ ∃ xs : List Sp, Hid (OwnSp wr w.heap.size v4 xs) ∧ Hid (RdSt rdS W k xs) ∧ Hid (Below w.heap.size w wr) ∧ Hid (wr.ownsRow w0.heap.size TStr 1 (.slice (some ⟨g1, 0, none⟩) W.length c1) W.length (strsV W)) ∧ Hid (∀ b, v4.ownBlock = some b → b ≠ g1))
  case atStart => exact ⟨0, by omega, rfl, [], HO1, RdSt.start _ _, HB1, HS0, HA0⟩
  case round =>
    clear HO1 HB1 HS0 HA0
    obtain ⟨k, hk, rfl, xs, HO, HR, HB, HS, HA⟩ := hrel
    by_cases hlt : k < W.length
    · have k0 : (0 : Int) ≤ (k : Int) := by omega
      have k1 : (k : Int) < (W.length : Int) := by omega
      obtain ⟨x, hx⟩ : ∃ x, W[k]? = some x := ⟨_, List.getElem?_eq_getElem hlt⟩
      have HW := Lib.hid hx
      have hxl : x.length ≤ 1200 := HWM.out x (List.mem_of_getElem? hx)
      have hxs : (str x).size ≤ 1048576 := by rw [str_size]; omega
      have c0 : wr.cell? ⟨g1, k, none⟩ = some (.string (str x)) := by
        rw [HS.out.cellAt k (by omega)]
        unfold strsV
        rw [List.getElem?_map, hx]
        rfl
      clear hx
      go_wp2_with fail
      refine (sFind45_c (str x) wr hxs).mono ?_
      rintro e w2 ⟨rfl, rfl⟩
      rw [str_data]
      by_cases hneg : Lib.indexByte x 45 < 0
      · have HX0 := Lib.hid (rd_none (f := numOf) hneg)
        obtain ⟨j, hj⟩ : ∃ j, j = Lib.indexByte x 45 := ⟨_, rfl⟩
        rw [← hj] at hneg ⊢
        clear hj
        go_wp2_with fail
        refine (sNum_c (str x) wr (by omega)).mono ?_
        rintro e w2 ⟨rfl, rfl⟩
        rw [str_data]
        cases ho : numOf x with
        | none =>
          have E : Hid (readOf rdS t.data.toList = none) := read_bad HNO.out (by rw [← HWW.out]; exact RdSt.bad HW.out (by show rdOf numOf x = none; rw [HX0.out, ho]; rfl))
          clear ho
          go_wp2_with fail
          exact bodyPost_ret (v := .tuple #[.slice none 0 0, .bool false]) (by simp [results, Tryd.results26, go_sem]) rfl (ReadPost.none E.out HB.out)
        | some m =>
          have HX : Hid (rdS x = some ⟨m, m⟩) := by show rdOf numOf x = _; rw [HX0.out, ho]; rfl
          clear ho HX0 c0 hneg
          have hrl := HR.out.len
          have hn1 : xs.length + 1 ≤ maxLen := by unfold maxLen; omega
          have hn2 : (xs.length + 1) * 16 ≤ 140737488355328 := by omega
          have hsz := HB.out.size
          have hgs : g1 < wr.heap.size := ((own_base HS.out) g1 rfl).2
          go_wp2_with (at_builtin; refine wpList_append_own_at _ rfl (.tmp 46) (.tmp 50) 25 rfl w.heap.size TSp i0 (.agg #[.int .i64 0, .int .i64 0]) 2 16 Tryd.underlying25 hi hz0 hz1 hz2 rfl (by decide) u4 _ _ rfl (HO.out.own.alloc _) ⟨wr.heap.size, 0, none⟩ 1 1 [.int .i64 m, .int .i64 m] rfl rfl (new_cells wr [.int .i64 m, .int .i64 m] TSp) (two_one _ _) hn1 hn2 (by simp; omega) ?_; intro v' w2 hown' hgrow _ hat)
          have hbs := own_base HO.out.own
          go_roundg (gk - 1)
          case measure => omega
          case rel =>
            refine ⟨k + 1, by omega, by go_num, xs ++ [(⟨m, m⟩ : Sp)], OwnSp.snoc hown', HR.out.step HW.out HX.out, (below_alloc HB.out _).grown hgrow (by simp; omega) (fun q hq => (hbs q hq).1), own_move (own_below HS.out (below_alloc (Below.refl wr.heap.size wr) _)) (fun b hb => hgrow.block b ?_ ?_), fun b hb => ?_⟩
            · have : b = g1 := by injection hb with hb; exact hb.symm
              subst this
              simp
              omega
            · have : b = g1 := by injection hb with hb; exact hb.symm
              subst this
              intro h
              exact HA.out _ h.symm rfl
            · rcases hat with h | h
              · exact HA.out b (h.symm.trans hb)
              · rw [h] at hb
                injection hb with hb
                simp at hb
                omega
      · have HX0 := Lib.hid (rd_some (f := numOf) hneg)
        have hj0 : ∃ j : Nat, Lib.indexByte x 45 = j ∧ j < x.length := by
          have h0 := Lib.indexByte_ge x 45
          obtain ⟨j, hj⟩ : ∃ j : Nat, Lib.indexByte x 45 = j := ⟨(Lib.indexByte x 45).toNat, by omega⟩
          exact ⟨j, hj, (List.getElem?_eq_some_iff.1 (Lib.indexByte_some hj).1).1⟩
        obtain ⟨j, hj, hjl⟩ := hj0
        rw [hj, show ((j : Nat) : Int).toNat = j by omega] at HX0
        rw [hj]
        clear hneg hj
        have hz := str_size x
        have q0 : ¬ (j : Int) < 0 := by omega
        have q1 : (0 : Int) ≤ (j : Int) := by omega
        have q2 : (j : Int) ≤ ((str x).size : Int) := by omega
        have q3 : (0 : Int) ≤ (j : Int) + 1 := by omega
        have q4 : (j : Int) + 1 ≤ ((str x).size : Int) := by omega
        have q5 : ((j : Int) + 1).toNat = j + 1 := by omega
        have X1 : Hid ((str x).extract 0 j = str (x.take j)) := by show _ = _; rw [ext_str, str_data, List.drop_zero]
        have X2 : Hid ((str x).extract (j + 1) x.length = str (x.drop (j + 1))) := by show _ = _; rw [ext_str, str_data, List.take_of_length_le (Nat.le_refl _)]
        go_wp2_with fail
        rw [X1.out]
        refine (sNum_c _ wr (by rw [str_size, List.length_take]; omega)).mono ?_
        rintro e w2 ⟨rfl, rfl⟩
        rw [str_data]
        go_wp2_with fail
        rw [X2.out]
        refine (sNum_c _ wr (by rw [str_size, List.length_drop]; omega)).mono ?_
        rintro e w2 ⟨rfl, rfl⟩
        rw [str_data]
        cases ho1 : numOf (x.take j) with
        | none =>
          have E : Hid (readOf rdS t.data.toList = none) := read_bad HNO.out (by rw [← HWW.out]; exact RdSt.bad HW.out (by show rdOf numOf x = none; rw [HX0.out, ho1]))
          obtain ⟨o2, ho2⟩ : ∃ o, o = numOf (x.drop (j + 1)) := ⟨_, rfl⟩
          rw [← ho2]
          clear ho1 ho2
          go_wp2_with fail
          exact bodyPost_ret (v := .tuple #[.slice none 0 0, .bool false]) (by simp [results, Tryd.results26, go_sem]) rfl (ReadPost.none E.out HB.out)
        | some m1 =>
          cases ho2 : numOf (x.drop (j + 1)) with
          | none =>
            have E : Hid (readOf rdS t.data.toList = none) := read_bad HNO.out (by rw [← HWW.out]; exact RdSt.bad HW.out (by show rdOf numOf x = none; rw [HX0.out, ho1, ho2]))
            clear ho1 ho2
            go_wp2_with fail
            exact bodyPost_ret (v := .tuple #[.slice none 0 0, .bool false]) (by simp [results, Tryd.results26, go_sem]) rfl (ReadPost.none E.out HB.out)
          | some m2 =>
            have HX : Hid (rdS x = some ⟨m1, m2⟩) := by show rdOf numOf x = _; rw [HX0.out, ho1, ho2]
            clear ho1 ho2 HX0 c0 q0 q1 q2 q3 q4 q5 hjl
            have hrl := HR.out.len
            have hn1 : xs.length + 1 ≤ maxLen := by unfold maxLen; omega
            have hn2 : (xs.length + 1) * 16 ≤ 140737488355328 := by omega
            have hsz := HB.out.size
            have hgs : g1 < wr.heap.size := ((own_base HS.out) g1 rfl).2
            go_wp2_with (at_builtin; refine wpList_append_own_at _ rfl (.tmp 79) (.tmp 83) 25 rfl w.heap.size TSp i0 (.agg #[.int .i64 0, .int .i64 0]) 2 16 Tryd.underlying25 hi hz0 hz1 hz2 rfl (by decide) u4 _ _ rfl (HO.out.own.alloc _) ⟨wr.heap.size, 0, none⟩ 1 1 [.int .i64 m1, .int .i64 m2] rfl rfl (new_cells wr [.int .i64 m1, .int .i64 m2] TSp) (two_one _ _) hn1 hn2 (by simp; omega) ?_; intro v' w2 hown' hgrow _ hat)
            have hbs := own_base HO.out.own
            go_roundg (gk - 1)
            case measure => omega
            case rel =>
              refine ⟨k + 1, by omega, by go_num, xs ++ [(⟨m1, m2⟩ : Sp)], OwnSp.snoc hown', HR.out.step HW.out HX.out, (below_alloc HB.out _).grown hgrow (by simp; omega) (fun q hq => (hbs q hq).1), own_move (own_below HS.out (below_alloc (Below.refl wr.heap.size wr) _)) (fun b hb => hgrow.block b ?_ ?_), fun b hb => ?_⟩
              · have : b = g1 := by injection hb with hb; exact hb.symm
                subst this
                simp
                omega
              · have : b = g1 := by injection hb with hb; exact hb.symm
                subst this
                intro h
                exact HA.out _ h.symm rfl
              · rcases hat with h | h
                · exact HA.out b (h.symm.trans hb)
                · rw [h] at hb
                  injection hb with hb
                  simp at hb
                  omega
    · have hkl : k = W.length := by omega
      subst hkl
      have HE := Lib.hid HR.out.fin
      have H64 := Lib.hid (rdSt_in (fun w x h => rdS_in h) HR.out)
      have hrl := HR.out.len
      have HRE := Lib.hid (read_end (f := rdS) HNO.out HNL.out (by rw [← HWW.out]; exact HE.out))
      obtain ⟨A, c, rfl, hs2⟩ := HO.out.sps
      go_wp2_with fail
      refine (sSetOk_c A c xs wr hs2).mono ?_
      rintro e w3 ⟨rfl, b3⟩
      by_cases hok : setOk xs = true
      · rw [hok] at HRE ⊢
        go_wp2_with fail
        refine (sSetText_c A c xs w3 (hs2.below b3.below) H64.out (by omega)).mono ?_
        rintro e w4 ⟨rfl, b4⟩
        have B4 := Lib.hid (below_then HB.out (below_then b3.below b4))
        have HO4 := Lib.hid (HO.out.below (below_then b3.below b4))
        by_cases he : setTxt xs = t.data.toList
        · have HF : Hid (readOf rdS t.data.toList = some xs) := by show _ = _; rw [HRE.out, he]; simp
          rw [he, str_of]
          clear he HRE HE
          go_wp2_with fail
          exact bodyPost_ret (v := .tuple #[.slice A xs.length c, .bool true]) (by simp [results, Tryd.results26, go_sem]) rfl (ReadPost.some HF.out HO4.out B4.out)
        · have HF : Hid (readOf rdS t.data.toList = none) := by show _ = _; rw [HRE.out, decide_eq_false he]; rfl
          obtain ⟨T, hT⟩ : ∃ T, T = str (setTxt xs) := ⟨_, rfl⟩
          have hne : T ≠ t := fun e => he (str_inj (by rw [← hT, e, str_of]))
          have hne2 : T.toList ≠ t.toList := fun e => hne (ByteArray.ext (Array.toList_inj.1 (by rw [← ByteArray.toList_eq, ← ByteArray.toList_eq]; exact e)))
          have q0 : (T.toList != t.toList) = true := by rw [bne_iff_ne]; exact hne2
          have q1 : (T.toList == t.toList) = false := by rw [beq_eq_false_iff_ne]; exact hne2
          have q2 : decide (T.toList = t.toList) = false := decide_eq_false hne2
          rw [← hT]
          clear he HRE HE hT
          go_wp2_with fail
          exact bodyPost_ret (v := .tuple #[.slice none 0 0, .bool false]) (by simp [results, Tryd.results26, go_sem]) rfl (ReadPost.none HF.out B4.out)
      · rw [eq_false_of_ne_true hok] at HRE ⊢
        go_wp2_with fail
        exact bodyPost_ret (v := .tuple #[.slice none 0 0, .bool false]) (by simp [results, Tryd.results26, go_sem]) rfl (ReadPost.none HRE.out (below_then HB.out b3.below))

end Go.Proofs.YtlchipjckgaclaaDoor
