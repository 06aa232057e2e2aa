/- Texts joined for the claims: Sq Rq. -/
import Derived.Test.YtlchipjckgaclaaDoorG9
import Derived.Test.YtlchipjckgaclaaDoorG2
import Derived.Test.YtlchipjckgaclaaDoorG7
import Derived.Test.YtlchipjckgaclaaDoorG8
import Derived.Maps.AppendAt
/- SetRead of the reference, walked. -/
namespace Go.Proofs.YtlchipjckgaclaaDoor
set_option linter.unusedSimpArgs false
set_option linter.unusedVariables false
set_option maxRecDepth 100000
open Go.RowKit

abbrev readV (o : Option (List Sp)) (A : Option Addr) (d : Nat) : Value := .tuple #[.slice A (o.getD []).length d, .bool o.isSome]
def ReadPost (o : Option (List Sp)) (w : World) (e : Ending) (w' : World) : Prop := ∃ A d, e = .returned (readV o A d) ∧ OwnSp w' w.heap.size (.slice A (o.getD []).length d) (o.getD []) ∧ Below w.heap.size w w'
theorem ReadPost.none {o : Option (List Sp)} {w w' : World} (ho : o = .none) (hb : Below w.heap.size w w') : ReadPost o w (.returned (.tuple #[.slice .none 0 0, .bool false])) w' := by
  subst ho
  exact ⟨.none, 0, rfl, OwnSp.nil _ _, hb⟩
theorem ReadPost.some {o : Option (List Sp)} {xs : List Sp} {w w' : World} {v : Value} (ho : o = .some xs) (hv : OwnSp w' w.heap.size v xs) (hb : Below w.heap.size w w') : ReadPost o w (.returned (.tuple #[v, .bool true])) w' := by
  subst ho
  obtain ⟨A, c, rfl, _⟩ := hv.sps
  exact ⟨A, c, rfl, hv, hb⟩
/-- what has been read of the words so far -/
structure RdSt (f : List UInt8 → Option Sp) (ws : List (List UInt8)) (k : Nat) (xs : List Sp) : Prop where
  all : ∀ w ∈ ws.take k, (f w).isSome = true
  val : xs = (ws.take k).filterMap f
  len : xs.length ≤ k
theorem RdSt.start (f : List UInt8 → Option Sp) (ws : List (List UInt8)) : RdSt f ws 0 [] := ⟨fun w hw => by simp at hw, by simp, Nat.le_refl _⟩
theorem RdSt.step {f : List UInt8 → Option Sp} {ws : List (List UInt8)} {k : Nat} {xs : List Sp} {w : List UInt8} {x : Sp} (h : RdSt f ws k xs) (hw : ws[k]? = some w) (hx : f w = some x) : RdSt f ws (k + 1) (xs ++ [x]) := by
  obtain ⟨h1, h2, h3⟩ := h
  refine ⟨fun v hv => ?_, ?_, by simp; omega⟩
  · rw [List.take_add_one, hw] at hv
    rcases List.mem_append.1 hv with hv | hv
    · exact h1 v hv
    · simp at hv; rw [hv, hx]; rfl
  · rw [List.take_add_one, hw, List.filterMap_append, ← h2]
    simp [hx]
theorem RdSt.bad {f : List UInt8 → Option Sp} {ws : List (List UInt8)} {k : Nat} {w : List UInt8} (hw : ws[k]? = some w) (hx : f w = .none) : rdAll f ws = .none := rdAll_none (List.mem_of_getElem? hw) hx
theorem RdSt.fin {f : List UInt8 → Option Sp} {ws : List (List UInt8)} {xs : List Sp} (h : RdSt f ws ws.length xs) : rdAll f ws = some xs := by
  obtain ⟨h1, h2, _⟩ := h
  rw [List.take_length] at h1 h2
  rw [rdAll_some h1, h2]
theorem rdSt_in {f : List UInt8 → Option Sp} (hf : ∀ w x, f w = some x → in64 x.lo ∧ in64 x.hi) {ws : List (List UInt8)} {k : Nat} {xs : List Sp} (h : RdSt f ws k xs) : sp64 xs := by
  intro x hx
  rw [h.val] at hx
  obtain ⟨w, _, hw⟩ := List.mem_filterMap.1 hx
  exact hf w x hw
theorem txt_ne {t : ByteArray} {l : List UInt8} (h : t.data.toList ≠ l) : (t.toList == l) = false := by rw [ByteArray.toList_eq, beq_eq_false_iff_ne]; exact h
theorem txt_is {t : ByteArray} {l : List UInt8} (h : t.data.toList = l) : (t.toList == l) = true := by rw [ByteArray.toList_eq, beq_iff_eq]; exact h
theorem num_v {w : List UInt8} {o : Option Int} (h : numOf w = o) : numV (numOf w) = .tuple #[.int .i64 (o.getD 0), .bool o.isSome] := by rw [h]
theorem sCut44_c (t : ByteArray) (w : World) (hs : t.size ≤ 1048576) :
    Calls Tryd.prog 60 #[.string t, .int .u8 44] w fun e w' => ∃ A d, e = .returned (.slice A (cutAt 44 t.data.toList).length d) ∧ w'.ownsRow w.heap.size TStr 1 (.slice A (cutAt 44 t.data.toList).length d) (cutAt 44 t.data.toList).length (strsV (cutAt 44 t.data.toList)) ∧ Below w.heap.size w w' := sCut_c t 44 w hs
theorem sFind45_c (t : ByteArray) (w : World) (hs : t.size ≤ 1048576) :
    Calls Tryd.prog 61 #[.string t, .int .u8 45] w fun e w' => e = .returned (.int .i64 (Lib.indexByte t.data.toList 45)) ∧ w = w' := sFind_c t 45 w hs

set_option maxHeartbeats 4000000 in
theorem sSetRead_c (t : ByteArray) (w : World) (hs : t.size ≤ 1048576) :
    Calls Tryd.prog 26 #[.string t] w (ReadPost (readSet t.data.toList) w) := by
  rw [← read_same]
  have HL := Lib.hid (bytes_len t)
  obtain ⟨i0, hi, hz0, hz1, hz2⟩ := info_parts infoSp
  go_enter Tryd.func26, Tryd.ntmps26
  by_cases hno : t.data.toList = [110, 111]
  · have d0 := txt_is hno
    have E : Hid (readOf rdS t.data.toList = some []) := by show _ = _; rw [hno]; exact read_no _
    clear hno
    go_wp2_with fail
    exact bodyPost_ret (v := .tuple #[.slice (some ⟨w.heap.size, 0, none⟩) 0 0, .bool true]) (by simp [results, Tryd.results26, go_sem]) rfl (ReadPost.some E.out (own_empty w) (below_alloc (Below.refl _ _) _))
  have d0 := txt_ne hno
  by_cases hlong : 1200 < t.size
  · have d1 : (1200 : Int) < (t.size : Int) := by omega
    have E : Hid (readOf rdS t.data.toList = none) := read_long hno (by rw [HL.out]; exact hlong)
    clear hno hlong
    go_wp2_with fail
    exact bodyPost_ret (v := .tuple #[.slice none 0 0, .bool false]) (by simp [results, Tryd.results26, go_sem]) rfl (ReadPost.none E.out (below_alloc (Below.refl _ _) _))
  have d1 : ¬ (1200 : Int) < (t.size : Int) := by omega
  have HNO := Lib.hid hno
  have HNL : Hid (¬ 1200 < t.data.toList.length) := by show ¬ _; rw [HL.out]; exact hlong
  clear hno
  have HO0 := Lib.hid (own_empty w)
  obtain ⟨w0, hw0⟩ : ∃ v, v = w.alloc (.cells #[] TSp) := ⟨_, rfl⟩
  have HB0 : Hid (Below w.heap.size w w0) := by rw [hw0]; exact below_alloc (Below.refl _ _) _
  rw [← hw0] at HO0
  go_wp2_with fail
  rw [← hw0]
  refine (sCut44_c t w0 hs).mono ?_
  rintro e w1 ⟨A1, c1, rfl, hown, b1⟩
  obtain ⟨W, hW⟩ : ∃ W, W = cutAt 44 t.data.toList := ⟨_, rfl⟩
  have hWp : 0 < W.length := by rw [hW]; exact List.length_pos_iff.2 (cutAt_pos _ _)
  have hWl : W.length ≤ 1201 := by have := cutAt_len 44 t.data.toList; rw [hW]; rw [HL.out] at this; omega
  have HWM : Hid (∀ v ∈ W, v.length ≤ 1200) := fun v hv => by
    have := cutAt_mem 44 t.data.toList v (by rw [← hW]; exact hv)
    have := HNL.out
    omega
  rw [← hW] at hown ⊢
  have HWW := Lib.hid hW
  clear hW hw0
  obtain ⟨g1, cc1, e1, hg1, hc1⟩ := own_form hown hWp
  injection e1 with e11 e12 e13
  subst e11 e13
  have HS0 := Lib.hid hown
  have HB1 := Lib.hid (below_then HB0.out b1)
  have HO1 := Lib.hid (HO0.out.below b1)
  have HA0 : Hid (∀ b, (Value.slice (some ⟨w.heap.size, 0, none⟩) 0 0).ownBlock = some b → b ≠ g1) := fun b hb => by
    have hb' : w.heap.size = b := by simpa [Value.ownBlock] using hb
    have := (own_base HO0.out.own w.heap.size rfl).2
    omega
  clear hown b1 HO0 HB0
  go_wp2_with fail
  go_loopg [4, 6] W.length (fun n v4 v6 wr => ∃ k : Nat, k + n = W.length ∧ v6 = .int .i64 k ∧ ∃ xs : List Sp, Hid (OwnSp wr w.heap.size v4 xs) ∧ Hid (RdSt rdS W k xs) ∧ Hid (Below w.heap.size w wr) ∧ Hid (wr.ownsRow w0.heap.size TStr 1 (.slice (some ⟨g1, 0, none⟩) W.length c1) W.length (strsV W)) ∧ Hid (∀ b, v4.ownBlock = some b → b ≠ g1))
  case atStart => exact ⟨0, by omega, rfl, [], HO1, RdSt.start _ _, HB1, HS0, HA0⟩
  case round =>
    clear HO1 HB1 HS0 HA0
    obtain ⟨k, hk, rfl, xs, HO, HR, HB, HS, HA⟩ := hrel
    by_cases hlt : k < W.length
    · have k0 : (0 : Int) ≤ (k : Int) := by omega
      have k1 : (k : Int) < (W.length : Int) := by omega
      obtain ⟨x, hx⟩ : ∃ x, W[k]? = some x := ⟨_, List.getElem?_eq_getElem hlt⟩
      have HW := Lib.hid hx
      have hxl : x.length ≤ 1200 := HWM.out x (List.mem_of_getElem? hx)
      have hxs : (str x).size ≤ 1048576 := by rw [str_size]; omega
      have c0 : wr.cell? ⟨g1, k, none⟩ = some (.string (str x)) := by
        rw [HS.out.cellAt k (by omega)]
        unfold strsV
        rw [List.getElem?_map, hx]
        rfl
      clear hx
      go_wp2_with fail
      refine (sFind45_c (str x) wr hxs).mono ?_
      rintro e w2 ⟨rfl, rfl⟩
      rw [str_data]
      by_cases hneg : Lib.indexByte x 45 < 0
      · have HX0 := Lib.hid (rd_none (f := numOf) hneg)
        obtain ⟨j, hj⟩ : ∃ j, j = Lib.indexByte x 45 := ⟨_, rfl⟩
        rw [← hj] at hneg ⊢
        clear hj
        go_wp2_with fail
        refine (sNum_c (str x) wr (by omega)).mono ?_
        rintro e w2 ⟨rfl, rfl⟩
        rw [str_data]
        cases ho : numOf x with
        | none =>
          have E : Hid (readOf rdS t.data.toList = none) := read_bad HNO.out (by rw [← HWW.out]; exact RdSt.bad HW.out (by show rdOf numOf x = none; rw [HX0.out, ho]; rfl))
          clear ho
          go_wp2_with fail
          exact bodyPost_ret (v := .tuple #[.slice none 0 0, .bool false]) (by simp [results, Tryd.results26, go_sem]) rfl (ReadPost.none E.out HB.out)
        | some m =>
          have HX : Hid (rdS x = some ⟨m, m⟩) := by show rdOf numOf x = _; rw [HX0.out, ho]; rfl
          clear ho HX0 c0 hneg
          have hrl := HR.out.len
          have hn1 : xs.length + 1 ≤ maxLen := by unfold maxLen; omega
          have hn2 : (xs.length + 1) * 16 ≤ 140737488355328 := by omega
          have hsz := HB.out.size
          have hgs : g1 < wr.heap.size := ((own_base HS.out) g1 rfl).2
          go_wp2_with (at_builtin; refine wpList_append_own_at _ rfl (.tmp 46) (.tmp 50) 25 rfl w.heap.size TSp i0 (.agg #[.int .i64 0, .int .i64 0]) 2 16 Tryd.underlying25 hi hz0 hz1 hz2 rfl (by decide) u4 _ _ rfl (HO.out.own.alloc _) ⟨wr.heap.size, 0, none⟩ 1 1 [.int .i64 m, .int .i64 m] rfl rfl (new_cells wr [.int .i64 m, .int .i64 m] TSp) (two_one _ _) hn1 hn2 (by simp; omega) ?_; intro v' w2 hown' hgrow _ hat)
          have hbs := own_base HO.out.own
          go_roundg (gk - 1)
          case measure => omega
          case rel =>
            refine ⟨k + 1, by omega, by go_num, xs ++ [(⟨m, m⟩ : Sp)], OwnSp.snoc hown', HR.out.step HW.out HX.out, (below_alloc HB.out _).grown hgrow (by simp; omega) (fun q hq => (hbs q hq).1), own_move (own_below HS.out (below_alloc (Below.refl wr.heap.size wr) _)) (fun b hb => hgrow.block b ?_ ?_), fun b hb => ?_⟩
            · have : b = g1 := by injection hb with hb; exact hb.symm
              subst this
              simp
              omega
            · have : b = g1 := by injection hb with hb; exact hb.symm
              subst this
              intro h
              exact HA.out _ h.symm rfl
            · rcases hat with h | h
              · exact HA.out b (h.symm.trans hb)
              · rw [h] at hb
                injection hb with hb
                simp at hb
                omega
      · have HX0 := Lib.hid (rd_some (f := numOf) hneg)
        have hj0 : ∃ j : Nat, Lib.indexByte x 45 = j ∧ j < x.length := by
          have h0 := Lib.indexByte_ge x 45
          obtain ⟨j, hj⟩ : ∃ j : Nat, Lib.indexByte x 45 = j := ⟨(Lib.indexByte x 45).toNat, by omega⟩
          exact ⟨j, hj, (List.getElem?_eq_some_iff.1 (Lib.indexByte_some hj).1).1⟩
        obtain ⟨j, hj, hjl⟩ := hj0
        rw [hj, show ((j : Nat) : Int).toNat = j by omega] at HX0
        rw [hj]
        clear hneg hj
        have hz := str_size x
        have q0 : ¬ (j : Int) < 0 := by omega
        have q1 : (0 : Int) ≤ (j : Int) := by omega
        have q2 : (j : Int) ≤ ((str x).size : Int) := by omega
        have q3 : (0 : Int) ≤ (j : Int) + 1 := by omega
        have q4 : (j : Int) + 1 ≤ ((str x).size : Int) := by omega
        have q5 : ((j : Int) + 1).toNat = j + 1 := by omega
        have X1 : Hid ((str x).extract 0 j = str (x.take j)) := by show _ = _; rw [ext_str, str_data, List.drop_zero]
        have X2 : Hid ((str x).extract (j + 1) x.length = str (x.drop (j + 1))) := by show _ = _; rw [ext_str, str_data, List.take_of_length_le (Nat.le_refl _)]
        go_wp2_with fail
        rw [X1.out]
        refine (sNum_c _ wr (by rw [str_size, List.length_take]; omega)).mono ?_
        rintro e w2 ⟨rfl, rfl⟩
        rw [str_data]
        go_wp2_with fail
        rw [X2.out]
        refine (sNum_c _ wr (by rw [str_size, List.length_drop]; omega)).mono ?_
        rintro e w2 ⟨rfl, rfl⟩
        rw [str_data]
        cases ho1 : numOf (x.take j) with
        | none =>
          have E : Hid (readOf rdS t.data.toList = none) := read_bad HNO.out (by rw [← HWW.out]; exact RdSt.bad HW.out (by show rdOf numOf x = none; rw [HX0.out, ho1]))
          obtain ⟨o2, ho2⟩ : ∃ o, o = numOf (x.drop (j + 1)) := ⟨_, rfl⟩
          rw [← ho2]
          clear ho1 ho2
          go_wp2_with fail
          exact bodyPost_ret (v := .tuple #[.slice none 0 0, .bool false]) (by simp [results, Tryd.results26, go_sem]) rfl (ReadPost.none E.out HB.out)
        | some m1 =>
          cases ho2 : numOf (x.drop (j + 1)) with
          | none =>
            have E : Hid (readOf rdS t.data.toList = none) := read_bad HNO.out (by rw [← HWW.out]; exact RdSt.bad HW.out (by show rdOf numOf x = none; rw [HX0.out, ho1, ho2]))
            clear ho1 ho2
            go_wp2_with fail
            exact bodyPost_ret (v := .tuple #[.slice none 0 0, .bool false]) (by simp [results, Tryd.results26, go_sem]) rfl (ReadPost.none E.out HB.out)
          | some m2 =>
            have HX : Hid (rdS x = some ⟨m1, m2⟩) := by show rdOf numOf x = _; rw [HX0.out, ho1, ho2]
            clear ho1 ho2 HX0 c0 q0 q1 q2 q3 q4 q5 hjl
            have hrl := HR.out.len
            have hn1 : xs.length + 1 ≤ maxLen := by unfold maxLen; omega
            have hn2 : (xs.length + 1) * 16 ≤ 140737488355328 := by omega
            have hsz := HB.out.size
            have hgs : g1 < wr.heap.size := ((own_base HS.out) g1 rfl).2
            go_wp2_with (at_builtin; refine wpList_append_own_at _ rfl (.tmp 79) (.tmp 83) 25 rfl w.heap.size TSp i0 (.agg #[.int .i64 0, .int .i64 0]) 2 16 Tryd.underlying25 hi hz0 hz1 hz2 rfl (by decide) u4 _ _ rfl (HO.out.own.alloc _) ⟨wr.heap.size, 0, none⟩ 1 1 [.int .i64 m1, .int .i64 m2] rfl rfl (new_cells wr [.int .i64 m1, .int .i64 m2] TSp) (two_one _ _) hn1 hn2 (by simp; omega) ?_; intro v' w2 hown' hgrow _ hat)
            have hbs := own_base HO.out.own
            go_roundg (gk - 1)
            case measure => omega
            case rel =>
              refine ⟨k + 1, by omega, by go_num, xs ++ [(⟨m1, m2⟩ : Sp)], OwnSp.snoc hown', HR.out.step HW.out HX.out, (below_alloc HB.out _).grown hgrow (by simp; omega) (fun q hq => (hbs q hq).1), own_move (own_below HS.out (below_alloc (Below.refl wr.heap.size wr) _)) (fun b hb => hgrow.block b ?_ ?_), fun b hb => ?_⟩
              · have : b = g1 := by injection hb with hb; exact hb.symm
                subst this
                simp
                omega
              · have : b = g1 := by injection hb with hb; exact hb.symm
                subst this
                intro h
                exact HA.out _ h.symm rfl
              · rcases hat with h | h
                · exact HA.out b (h.symm.trans hb)
                · rw [h] at hb
                  injection hb with hb
                  simp at hb
                  omega
    · have hkl : k = W.length := by omega
      subst hkl
      have HE := Lib.hid HR.out.fin
      have H64 := Lib.hid (rdSt_in (fun w x h => rdS_in h) HR.out)
      have hrl := HR.out.len
      have HRE := Lib.hid (read_end (f := rdS) HNO.out HNL.out (by rw [← HWW.out]; exact HE.out))
      obtain ⟨A, c, rfl, hs2⟩ := HO.out.sps
      go_wp2_with fail
      refine (sSetOk_c A c xs wr hs2).mono ?_
      rintro e w3 ⟨rfl, b3⟩
      by_cases hok : setOk xs = true
      · rw [hok] at HRE ⊢
        go_wp2_with fail
        refine (sSetText_c A c xs w3 (hs2.below b3.below) H64.out (by omega)).mono ?_
        rintro e w4 ⟨rfl, b4⟩
        have B4 := Lib.hid (below_then HB.out (below_then b3.below b4))
        have HO4 := Lib.hid (HO.out.below (below_then b3.below b4))
        by_cases he : setTxt xs = t.data.toList
        · have HF : Hid (readOf rdS t.data.toList = some xs) := by show _ = _; rw [HRE.out, he]; simp
          rw [he, str_of]
          clear he HRE HE
          go_wp2_with fail
          exact bodyPost_ret (v := .tuple #[.slice A xs.length c, .bool true]) (by simp [results, Tryd.results26, go_sem]) rfl (ReadPost.some HF.out HO4.out B4.out)
        · have HF : Hid (readOf rdS t.data.toList = none) := by show _ = _; rw [HRE.out, decide_eq_false he]; rfl
          obtain ⟨T, hT⟩ : ∃ T, T = str (setTxt xs) := ⟨_, rfl⟩
          have hne : T ≠ t := fun e => he (str_inj (by rw [← hT, e, str_of]))
          have hne2 : T.toList ≠ t.toList := fun e => hne (ByteArray.ext (Array.toList_inj.1 (by rw [← ByteArray.toList_eq, ← ByteArray.toList_eq]; exact e)))
          have q0 : (T.toList != t.toList) = true := by rw [bne_iff_ne]; exact hne2
          have q1 : (T.toList == t.toList) = false := by rw [beq_eq_false_iff_ne]; exact hne2
          have q2 : decide (T.toList = t.toList) = false := decide_eq_false hne2
          rw [← hT]
          clear he HRE HE hT
          go_wp2_with fail
          exact bodyPost_ret (v := .tuple #[.slice none 0 0, .bool false]) (by simp [results, Tryd.results26, go_sem]) rfl (ReadPost.none HF.out B4.out)
      · rw [eq_false_of_ne_true hok] at HRE ⊢
        go_wp2_with fail
        exact bodyPost_ret (v := .tuple #[.slice none 0 0, .bool false]) (by simp [results, Tryd.results26, go_sem]) rfl (ReadPost.none HRE.out (below_then HB.out b3.below))

end Go.Proofs.YtlchipjckgaclaaDoor

/- Rows of words in memory; l2Parse of the reference, walked. -/
namespace Go.Proofs.YtlchipjckgaclaaDoor
set_option linter.unusedSimpArgs false
set_option linter.unusedVariables false
set_option maxRecDepth 100000
open Go.RowKit

/-- words lie in a block, from a place on -/
structure StrAt (w : World) (g off : Nat) (ws : List (List UInt8)) : Prop where
  cell : ∀ i x, ws[i]? = some x → w.cell? ⟨g, off + i, none⟩ = some (.string (str x))
theorem StrAt.below {w w' : World} {g off : Nat} {ws : List (List UInt8)} (h : StrAt w g off ws) (hb : Below w.heap.size w w') : StrAt w' g off ws :=
  ⟨fun i x hx => (hb.cell (World.block_lt_of_cell? w _ (h.cell i x hx))).trans (h.cell i x hx)⟩
theorem StrAt.tail {w : World} {g off : Nat} {x : List UInt8} {ws : List (List UInt8)} (h : StrAt w g off (x :: ws)) : StrAt w g (off + 1) ws :=
  ⟨fun i y hy => by rw [show off + 1 + i = off + (i + 1) by omega]; exact h.cell (i + 1) y (by simpa using hy)⟩
theorem KApp.more {w : World} {lo : Nat} {ks : List Rex} {v : Value} {L : List KInfo} (h : KApp w lo ks ks.length v L) (r : Rex) : KApp w lo (ks ++ [r]) ks.length v L := by
  refine ⟨?_, h.len, by simp, fun i r' x hi hx => ?_, h.nd, h.lo⟩
  · have := h.own
    rw [List.take_length] at this
    rw [List.take_left]
    exact this
  · have hl := (List.getElem?_eq_some_iff.1 hx).1
    have hlen := h.len
    rw [List.getElem?_append_left (by omega)] at hi
    exact h.hr i r' x hi hx

/-- the kind found among those below k -/
def kindTo (k : Nat) (x : List UInt8) : Int := if kindW x < k then kindW x else 0
theorem kindTo_one (x : List UInt8) : kindTo 1 x = 0 := by
  unfold kindTo
  split
  · rcases kindW_cases x with ⟨h, _⟩ | ⟨h, _⟩
    · exact h
    · rcases h with h | h | h | h | h | h | h <;> omega
  · rfl
theorem kindTo_end (x : List UInt8) : kindTo 8 x = kindW x := by
  unfold kindTo
  split
  · rfl
  · rcases kindW_cases x with ⟨h, _⟩ | ⟨h, _⟩
    · omega
    · rcases h with h | h | h | h | h | h | h <;> omega
theorem kind7_nat {k : Nat} (h1 : 1 ≤ k) (h2 : k ≤ 7) : kind7 (k : Int) := by unfold kind7; omega
theorem kindTo_hit {k : Nat} {x : List UInt8} (h1 : 1 ≤ k) (h2 : k ≤ 7) (h : kw (k : Int) = x) : kindTo (k + 1) x = k := by
  have : kindW x = k := by rw [← h]; exact kindW_kw (kind7_nat h1 h2)
  unfold kindTo
  rw [this, if_pos (by omega)]
theorem kindTo_miss {k : Nat} {x : List UInt8} (h1 : 1 ≤ k) (h2 : k ≤ 7) (h : kw (k : Int) ≠ x) : kindTo (k + 1) x = kindTo k x := by
  have : kindW x ≠ k := fun e => by
    rcases kindW_cases x with ⟨h3, _⟩ | ⟨_, h4⟩
    · omega
    · rw [e] at h4; exact h h4.symm
  unfold kindTo
  by_cases h3 : kindW x < k
  · rw [if_pos h3, if_pos (by omega)]
  · rw [if_neg h3, if_neg (by omega)]

/-- what l2Parse leaves -/
def ParsePost (n : Nat) (o : Option (Rex × List (List UInt8))) (W : List (List UInt8)) (e : Ending) (w' : World) : Prop :=
  match o with
  | none => ∃ k A n1 c K n2 ck, e = .returned (.tuple #[.agg #[.int .i64 k, .slice A n1 c, .slice K n2 ck], .int .i64 (-1)])
  | some (r, rest) => ∃ A c K ck fp at', e = .returned (.tuple #[.agg #[.int .i64 r.kind, .slice A r.set.length c, .slice K r.kids.length ck], .int .i64 (at' : Nat)]) ∧ at' ≤ W.length ∧ W.drop at' = rest ∧
      OwnT w' fp r (.slice A r.set.length c) (.slice K r.kids.length ck) ∧ fp.Nodup ∧ ∀ b, b ∈ fp → n ≤ b
def ParseOk (d : Nat) : Prop := ∀ (g D at' : Nat) (W : List (List UInt8)) (w : World), StrAt w g 0 W → at' ≤ W.length → W.length ≤ 4001 → (∀ x ∈ W, x.length ≤ 4000) →
  Calls Tryd.prog 72 #[.slice (some ⟨g, 0, none⟩) W.length D, .int .i64 (at' : Nat), .int .i64 (d : Nat)] w fun e w' => ParsePost w.heap.size (readW d (W.drop at')) W e w' ∧ Below w.heap.size w w'

theorem results_row_tmp' {P : Program} {fn : Func} {p u : Tmp} {ty : TypeId} (h : fn.results = #[.cell p ty, .tmp u]) (tmps : Array Value) (w : World) (g : Nat) (t : TypeId) (cs : Array Value) (fr : Nat × Nat) (d : TypeDesc)
    (hp : tmps.getD p undef = .pointer (some ⟨g, 0, none⟩)) (hg : w.heap[g]? = some (.cells cs t fr))
    (hu : P.underlying ty = some d) (hd : (match d with | .struct _ | .array _ _ => true | _ => false) = true) (hi : (P.info? ty).map (·.size) = some cs.size) (x : Value) (hx : tmps.getD u undef = x) :
    (results fn tmps).run P w = .ok (.tuple #[.agg cs, x]) w := by
  have hp' : tmps[p]?.getD undef = .pointer (some ⟨g, 0, none⟩) := by simpa using hp
  have hx' : tmps[u]?.getD undef = x := by simpa using hx
  simp [results, h, hp', hx', asAddr, run_loadVar_row w g t ty cs fr d hg hu hd hi]
abbrev zRx : Obj := .cells #[.int .i64 0, nilS, nilS] TRx
/-- the end at a place of no use -/
theorem parse_none {o : Option (Rex × List (List UInt8))} {W : List (List UInt8)} {w w' : World} {k : Int} {A K : Option Addr} {n1 c n2 ck : Nat} (ho : o = none) (hb : Below w.heap.size w w') :
    ParsePost w.heap.size o W (.returned (.tuple #[.agg #[.int .i64 k, .slice A n1 c, .slice K n2 ck], .int .i64 (-1)])) w' ∧ Below w.heap.size w w' := by
  subst ho
  exact ⟨⟨k, A, n1, c, K, n2, ck, rfl⟩, hb⟩

theorem parse_some {n : Nat} {o : Option (Rex × List (List UInt8))} {W rest : List (List UInt8)} {w wr w5 : World} {r : Rex} {fp : List Nat} {A K : Option Addr} {n1 n2 c ck at' : Nat} {m : Int} (ho : o = some (r, rest)) (e1 : n1 = r.set.length) (e2 : n2 = r.kids.length) (em : m = (at' : Nat)) (ha : at' ≤ W.length) (hr : W.drop at' = rest)
    (HO : OwnT wr fp r (.slice A n1 c) (.slice K n2 ck)) (HF : ∀ b, b ∈ fp → n ≤ b) (hn : w.heap.size < n) (HB : Below w.heap.size w wr) (HG : wr.grownBy w5 (some w.heap.size)) :
    ParsePost w.heap.size o W (.returned (.tuple #[.agg #[.int .i64 r.kind, .slice A n1 c, .slice K n2 ck], .int .i64 m])) w5 ∧ Below w.heap.size w w5 := by
  subst ho e1 e2 em
  obtain ⟨_, _, _, hnd, _⟩ := HO.parts
  refine ⟨⟨A, c, K, ck, fp, at', rfl, ha, hr, ?_, hnd, fun b hb => by have := HF b hb; omega⟩, HB.grown HG HB.size fun q hq => by injection hq with hq; omega⟩
  exact HO.stay fun b hb => HG.block b (HO.lt b hb) fun e => by injection e with e; have := HF b hb; omega
theorem OwnT.setOnly' {w : World} {base : Nat} {v : Value} {s : List Sp} (k : Int) (h : OwnSp w base v s) : OwnT w (vblk v) (.mk k s []) v nilS := by
  have := OwnT.of (fk := []) (k := k) (OwnSp.lower h (Nat.zero_le base)) OwnK.empty (by simpa using vblk_nodup v)
  simpa using this
set_option maxHeartbeats 1000000 in
theorem sParse_bad (d g D at' : Nat) (W : List (List UInt8)) (w : World) (hd : d = 0 ∨ W.length ≤ at') :
    Calls Tryd.prog 72 #[.slice (some ⟨g, 0, none⟩) W.length D, .int .i64 (at' : Nat), .int .i64 (d : Nat)] w fun e w' => ParsePost w.heap.size (readW d (W.drop at')) W e w' ∧ Below w.heap.size w w' := by
  have E : Hid (readW d (W.drop at') = none) := by
    show _ = _
    rcases hd with rfl | h
    · exact readW_zero _
    · rw [List.drop_eq_nil_of_le h]; exact readW_nil _
  by_cases h1 : W.length ≤ at'
  · have d0 : (W.length : Int) ≤ (at' : Int) := by omega
    clear hd
    go_enter Tryd.func72, Tryd.ntmps72
    go_wp2_with fail
    refine bodyPost_ret (results_row_tmp' Tryd.results72 _ _ w.heap.size TRx _ (0, 0) _ rfl (blk_new w _ _).eq Tryd.underlying36 rfl (by rw [sizeRx]; rfl) (.int .i64 (-1)) rfl) rfl ?_
    exact parse_none (E.out) (below_alloc (Below.refl _ _) _)
  · have d0 : ¬ (W.length : Int) ≤ (at' : Int) := by omega
    obtain rfl : d = 0 := by omega
    clear hd h1
    go_enter Tryd.func72, Tryd.ntmps72
    go_wp2_with fail
    refine bodyPost_ret (results_row_tmp' Tryd.results72 _ _ w.heap.size TRx _ (0, 0) _ rfl (blk_new w _ _).eq Tryd.underlying36 rfl (by rw [sizeRx]; rfl) (.int .i64 (-1)) rfl) rfl ?_
    exact parse_none (E.out) (below_alloc (Below.refl _ _) _)

set_option maxHeartbeats 4000000 in
theorem sParse_step (d g D at' : Nat) (W : List (List UInt8)) (w : World) (hS : StrAt w g 0 W) (hat : at' < W.length) (hW : W.length ≤ 4001) (hx : ∀ x ∈ W, x.length ≤ 4000) (hd : d ≤ 8) (ih : ParseOk d) :
    Calls Tryd.prog 72 #[.slice (some ⟨g, 0, none⟩) W.length D, .int .i64 (at' : Nat), .int .i64 ((d + 1 : Nat))] w fun e w' => ParsePost w.heap.size (readW (d + 1) (W.drop at')) W e w' ∧ Below w.heap.size w w' := by
  obtain ⟨x, ex⟩ : ∃ x, W[at']? = some x := ⟨_, List.getElem?_eq_getElem hat⟩
  have hxl : x.length ≤ 4000 := hx x (List.mem_of_getElem? ex)
  have hdr : W.drop at' = x :: W.drop (at' + 1) := by
    rw [List.drop_eq_getElem_cons hat]
    rw [List.getElem?_eq_getElem hat] at ex
    rw [Option.some.inj ex]
  rw [hdr]
  obtain ⟨ro, hro⟩ : ∃ o, o = readW (d + 1) (x :: W.drop (at' + 1)) := ⟨_, rfl⟩
  rw [← hro]
  have HRO := Lib.hid hro
  clear hro
  have HS := Lib.hid hS
  have HX := Lib.hid hx
  have EX := Lib.hid ex
  have IH := Lib.hid ih
  clear hS hx ex ih hdr
  obtain ⟨wb, hwb⟩ : ∃ y, y = (w.alloc zRx).alloc zRx := ⟨_, rfl⟩
  have hb : Below w.heap.size w wb := by rw [hwb]; exact below_alloc (below_alloc (Below.refl _ _) _) _
  have m0 : Blk wb w.heap.size #[.int .i64 0, nilS, nilS] TRx := by rw [hwb]; exact (blk_new w _ _).alloc _
  have m1 : Blk wb (w.heap.size + 1) #[.int .i64 0, nilS, nilS] TRx := by
    rw [hwb]
    have := blk_new (w.alloc zRx) #[.int .i64 0, nilS, nilS] TRx
    simpa using this
  have hz : wb.heap.size = w.heap.size + 2 := by rw [hwb]; simp
  have HZ : Hid (w.heap.size + 2 ≤ wb.heap.size) := Nat.le_of_eq hz.symm
  have HB := Lib.hid hb
  have M0 := Lib.hid m0
  have M1 : Hid (Blk wb (w.heap.size + 1) #[.int .i64 (kindTo 1 x), nilS, nilS] TRx) := by rw [kindTo_one]; exact m1
  clear hb m0 m1 hz
  have HW := Lib.hid hwb
  clear hwb
  have d0 : ¬ (W.length : Int) ≤ (at' : Int) := by omega
  have d1 : ¬ (d : Int) + 1 < 1 := by omega
  go_enter Tryd.func72, Tryd.ntmps72
  go_wp2_with fail
  rw [← HW.out]
  clear HW
  go_loopg [9] 8 (fun n v wr => ∃ k : Nat, k + n = 9 ∧ 1 ≤ k ∧ k ≤ 8 ∧ v = .int .i64 k ∧ Hid (Blk wr w.heap.size #[.int .i64 0, nilS, nilS] TRx) ∧ Hid (Blk wr (w.heap.size + 1) #[.int .i64 (kindTo k x), nilS, nilS] TRx) ∧ Hid (Below w.heap.size w wr) ∧ Hid (w.heap.size + 2 ≤ wr.heap.size))
  case atStart => exact ⟨1, rfl, Nat.le_refl _, by omega, rfl, M0, M1, HB, HZ⟩
  case round =>
    clear M0 M1 HB HZ
    obtain ⟨k, hk, hk1, hk8, rfl, M0, M1, HB, HZ⟩ := hrel
    by_cases hk7 : k ≤ 7
    · have i0 : (0 : Int) ≤ (k : Int) := by omega
      have i1 : (k : Int) < 8 := by omega
      have i2 : (k : Int) ≤ 7 := by omega
      have i3 : (0 : Int) ≤ (at' : Int) := by omega
      have i4 : (at' : Int) < (W.length : Int) := by omega
      have HC : Hid (∀ w', Below wr.heap.size wr w' → w'.cell? ⟨g, at', none⟩ = some (.string (str x))) := fun w' hb' => by
        have := ((HS.out.below HB.out).below hb').cell at' x EX.out
        rwa [Nat.zero_add] at this
      go_wp2_with fail
      refine wp_region_held_drew (S := fun w' => w'.cell? ⟨g, at', none⟩ = some (.string (str x))) (by kernel_rfl) (HC.out _ (below_drew (Below.refl _ _))) (fun hHeld0 => ?_)
      refine wpAnyH_take (i := 1) (v := ?_) rfl (by kernel_rfl) (by kernel_rfl) (by kernel_rfl) (fun _ _ _ h => h) (Or.inl ⟨by rfl, ?_⟩) (by assumption) ?_
      rotate_left
      · (intro w hSw; (try dsimp only at hSw); go_simp; try with_reducible rfl)
      try simp only [Act.put, List.getElem_toArray, List.getElem_cons_zero, List.getElem_cons_succ, List.setIfInBounds_toArray, List.set_cons_zero, List.set_cons_succ]
      refine wpAnyH_take (i := 4) (v := ?_) rfl (by kernel_rfl) (by kernel_rfl) (by kernel_rfl) (fun _ _ _ h => h) (Or.inl ⟨by rfl, ?_⟩) (by assumption) ?_
      rotate_left
      · (intro w hSw; (try dsimp only at hSw); go_simp; try with_reducible rfl)
      try simp only [Act.put, List.getElem_toArray, List.getElem_cons_zero, List.getElem_cons_succ, List.setIfInBounds_toArray, List.set_cons_zero, List.set_cons_succ]
      refine wpAnyH_take (i := 5) (v := ?_) rfl (by kernel_rfl) (by kernel_rfl) (by kernel_rfl) (fun _ _ _ h => h) (Or.inl ⟨by rfl, ?_⟩) (by assumption) ?_
      rotate_left
      · (intro w hSw; (try dsimp only at hSw); go_simp; try with_reducible rfl)
      try simp only [Act.put, List.getElem_toArray, List.getElem_cons_zero, List.getElem_cons_succ, List.setIfInBounds_toArray, List.set_cons_zero, List.set_cons_succ]
      refine wpAnyH_take (i := 6) (v := ?_) rfl (by kernel_rfl) (by kernel_rfl) (by kernel_rfl) (fun _ _ _ h => h) (Or.inl ⟨by rfl, ?_⟩) (by assumption) ?_
      rotate_left
      · (intro w hSw; (try dsimp only at hSw); go_simp; try with_reducible rfl)
      try simp only [Act.put, List.getElem_toArray, List.getElem_cons_zero, List.getElem_cons_succ, List.setIfInBounds_toArray, List.set_cons_zero, List.set_cons_succ]
      refine wpAnyH_take (i := 7) (v := ?_) rfl (by kernel_rfl) (by kernel_rfl) (by kernel_rfl) (fun _ _ _ h => h) (Or.inl ⟨by rfl, ?_⟩) (by assumption) ?_
      rotate_left
      · (intro w hSw; (try dsimp only at hSw); go_simp; try with_reducible rfl)
      try simp only [Act.put, List.getElem_toArray, List.getElem_cons_zero, List.getElem_cons_succ, List.setIfInBounds_toArray, List.set_cons_zero, List.set_cons_succ]
      refine wpAnyH_ready (rs := [0]) (by kernel_rfl) (by simp) ?_
      refine AllReadyH.cons (o := ⟨some 29, _, _, _, _, _⟩) rfl (fun K hK => ?_) AllReadyH.nil
      go_simp
      refine (sWords_c wr.drew).mono ?_
      rintro e w1 ⟨g1, rfl, hc, b1⟩
      have B1 := Lib.hid (below_then (below_drew (Below.refl wr.heap.size wr)) b1)
      obtain ⟨T, hT⟩ : ∃ l, l = str (kw (k : Int)) := ⟨_, rfl⟩
      have c0 := hc k (by omega)
      rw [← hT] at c0
      have HT := Lib.hid hT
      clear hc b1 hT
      (try go_wp2_with fail)
      refine hK.out _ _ (HC.out w1 B1.out) (fun hHeld1 => ?_)
      clear hK K hHeld0
      try simp only [Act.put, List.getElem_toArray, List.getElem_cons_zero, List.getElem_cons_succ, List.setIfInBounds_toArray, List.set_cons_zero, List.set_cons_succ]
      refine wpAnyH_take (i := 2) (v := ?_) rfl (by kernel_rfl) (by kernel_rfl) (by kernel_rfl) (fun _ _ _ h => h) (Or.inl ⟨by rfl, ?_⟩) (by assumption) ?_
      rotate_left
      · (intro w hSw; (try dsimp only at hSw); go_simp; try with_reducible rfl)
      try simp only [Act.put, List.getElem_toArray, List.getElem_cons_zero, List.getElem_cons_succ, List.setIfInBounds_toArray, List.set_cons_zero, List.set_cons_succ]
      refine wpAnyH_ready (rs := [3]) (by kernel_rfl) (by simp) ?_
      refine AllReadyH.cons (o := ⟨some 32, _, _, _, _, _⟩) rfl (fun K hK => ?_) AllReadyH.nil
      go_simp
      refine hK.out _ _ (HC.out w1 B1.out) (fun hHeld2 => ?_)
      clear hK K hHeld1
      try simp only [Act.put, List.getElem_toArray, List.getElem_cons_zero, List.getElem_cons_succ, List.setIfInBounds_toArray, List.set_cons_zero, List.set_cons_succ]
      refine wpAnyH_take (i := 8) (v := ?_) rfl (by kernel_rfl) (by kernel_rfl) (by kernel_rfl) (fun _ _ _ h => h) (Or.inl ⟨by rfl, ?_⟩) (by assumption) ?_
      rotate_left
      · (intro w hSw; (try dsimp only at hSw); go_simp; try with_reducible rfl)
      try simp only [Act.put, List.getElem_toArray, List.getElem_cons_zero, List.getElem_cons_succ, List.setIfInBounds_toArray, List.set_cons_zero, List.set_cons_succ]
      refine wpAnyH_done (by kernel_rfl) ?_ _
      replace M0 := Lib.hid (M0.out.below B1.out)
      replace M1 := Lib.hid (M1.out.below B1.out)
      replace HB := Lib.hid (below_then HB.out B1.out)
      have HZ1 : Hid (w.heap.size + 2 ≤ w1.heap.size) := Nat.le_trans HZ.out B1.out.size
      clear c0 HC hHeld2 B1 HZ
      have n0 : w1.cell? ⟨w.heap.size + 1, 0, none⟩ = some (.int .i64 (kindTo k x)) := by rw [M1.out.cell]; rfl
      have f0 : w1.frozen? ⟨w.heap.size + 1, 0, none⟩ = false := M1.out.free 0
      by_cases he : kw (k : Int) = x
      · have ET := HT.out
        rw [he] at ET
        subst ET
        have HK := Lib.hid (kindTo_hit hk1 hk7 he)
        clear he
        rw [show ((str x).toList == (str x).toList) = true from beq_self_eq_true _]
        go_wp2_with fail
        clear n0 f0
        go_roundg (gk - 1)
        case measure => omega
        case rel =>
          refine ⟨k + 1, by omega, by omega, by omega, by go_num, M0.out.far (by simp) _, ?_, below_set HB.out (by simp) _, by show _ ≤ _; rw [World.size_setCell]; exact HZ1.out⟩
          have := M1.out.set 0 (.int .i64 (k : Int))
          rw [HK.out]
          exact Lib.hid (by simpa using this)
      · have HK := Lib.hid (kindTo_miss hk1 hk7 he)
        have hne : T ≠ str x := fun e => he (str_inj (by rw [← HT.out, e]))
        have hne2 : T.toList ≠ (str x).toList := fun e => hne (ByteArray.ext (Array.toList_inj.1 (by rw [← ByteArray.toList_eq, ← ByteArray.toList_eq]; exact e)))
        have q1 : (T.toList == (str x).toList) = false := by rw [beq_eq_false_iff_ne]; exact hne2
        clear he
        rw [q1]
        go_wp2_with fail
        clear n0 f0
        go_roundg (gk - 1)
        case measure => omega
        case rel =>
          refine ⟨k + 1, by omega, by omega, by omega, by go_num, M0, ?_, HB, HZ1⟩
          rw [HK.out]
          exact M1
    · have hk8' : k = 8 := by omega
      rw [hk8', kindTo_end] at M1
      have i2 : ¬ (k : Int) ≤ 7 := by omega
      obtain ⟨kx, hkx⟩ : ∃ y, y = kindW x := ⟨_, rfl⟩
      have KX := kindW_cases x
      rw [← hkx] at M1 KX
      have HKX : Hid (kindW x = kx) := hkx.symm
      have n0 : wr.cell? ⟨w.heap.size + 1, 0, none⟩ = some (.int .i64 kx) := by rw [M1.out.cell]; rfl
      have n1 : wr.cell? ⟨w.heap.size + 1, 1, none⟩ = some nilS := by rw [M1.out.cell]; rfl
      have n2 : wr.cell? ⟨w.heap.size + 1, 2, none⟩ = some nilS := by rw [M1.out.cell]; rfl
      have f1 : wr.frozen? ⟨w.heap.size + 1, 1, none⟩ = false := M1.out.free 1
      clear hkx hk hk1 hk8 hk8' hk7
      by_cases k1 : kx = 1
      · subst k1
        clear KX
        by_cases hend : at' + 1 < W.length
        · have i3 : ¬ (W.length : Int) ≤ (at' : Int) + 1 := by omega
          have i4 : (0 : Int) ≤ (at' : Int) + 1 := by omega
          have i5 : (at' : Int) + 1 < (W.length : Int) := by omega
          obtain ⟨y, ey⟩ : ∃ y, W[at' + 1]? = some y := ⟨_, List.getElem?_eq_getElem hend⟩
          have c0 : wr.cell? ⟨g, at' + 1, none⟩ = some (.string (str y)) := by
            have := (HS.out.below HB.out).cell (at' + 1) y ey
            rwa [Nat.zero_add] at this
          have hyl : y.length ≤ 4000 := HX.out y (List.mem_of_getElem? ey)
          have hdy : Hid (W.drop (at' + 1) = y :: W.drop (at' + 2)) := by
            show _ = _
            rw [List.drop_eq_getElem_cons hend]
            rw [List.getElem?_eq_getElem hend] at ey
            rw [Option.some.inj ey]
          clear ey
          go_wp2_with fail
          refine (sSetRead_c (str y) wr (by rw [str_size]; omega)).mono ?_
          rintro e w2 ⟨A2, c2, rfl, o2, b2⟩
          rw [str_data] at o2 ⊢
          replace M0 := Lib.hid (M0.out.below b2)
          replace M1 := Lib.hid (M1.out.below b2)
          have HB2 := Lib.hid (below_then HB.out b2)
          have HZ2 := Lib.hid (Nat.le_trans HZ.out b2.size)
          clear n0 n1 n2 f1 c0 b2
          have n0 : w2.cell? ⟨w.heap.size + 1, 0, none⟩ = some (.int .i64 1) := by rw [M1.out.cell]; rfl
          have n1 : w2.cell? ⟨w.heap.size + 1, 1, none⟩ = some nilS := by rw [M1.out.cell]; rfl
          have n2 : w2.cell? ⟨w.heap.size + 1, 2, none⟩ = some nilS := by rw [M1.out.cell]; rfl
          have f1 : w2.frozen? ⟨w.heap.size + 1, 1, none⟩ = false := M1.out.free 1
          cases hs : readSet y with
          | none =>
            have E : Hid (ro = none) := by show _ = _; rw [HRO.out, hdy.out]; exact readW_setN HKX.out hs
            clear hs o2
            go_wp2_with ((with_reducible refine at_st 6 60 ?_); refine ev_store (o := ⟨none, .store _ (.tmp 6) _, _, _, _, _⟩) rfl rfl TRx (.tmp 6) (.tmp 60) rfl (w.heap.size) 0 rfl [.int .i64 1, nilS, nilS] rfl _ TRx M0.out (sizeRx' _ _ _) (by show 0 + 3 ≤ 3; omega) (three_one _ _ _ _ _ _ _) ?_; intro w5 hX5 hg5; have HX5 : Hid (Blk w5 (w.heap.size) ([.int .i64 1, nilS, nilS]).toArray TRx) := hX5; have HG5 := Lib.hid hg5; clear hX5 hg5)
            refine bodyPost_ret (results_row_tmp' Tryd.results72 _ _ w.heap.size TRx _ (0, 0) _ rfl (HX5.out).eq Tryd.underlying36 rfl (by rw [sizeRx]; rfl) (.int .i64 (-1)) rfl) rfl ?_
            exact parse_none (E.out) (HB2.out.grown HG5.out HB2.out.size (fun q hq => by injection hq with hq; omega))
          | some s =>
            have E : Hid (ro = some (.mk 1 s [], W.drop (at' + 2))) := by show _ = _; rw [HRO.out, hdy.out]; exact readW_setS HKX.out hs
            rw [hs] at o2
            clear hs
            have O2 := Lib.hid o2
            have HU := Lib.hid (own_base o2.own)
            clear o2
            have HZG := HZ.out
            go_wp2_with ((with_reducible refine at_st 6 63 ?_); refine ev_store (o := ⟨none, .store _ (.tmp 6) _, _, _, _, _⟩) rfl rfl TRx (.tmp 6) (.tmp 63) rfl (w.heap.size) 0 rfl [.int .i64 1, .slice A2 s.length c2, nilS] rfl _ TRx (M0.out.far (by simp) _) (sizeRx' _ _ _) (by show 0 + 3 ≤ 3; omega) (three_one _ _ _ _ _ _ _) ?_; intro w5 hX5 hg5; have HX5 : Hid (Blk w5 (w.heap.size) ([.int .i64 1, .slice A2 s.length c2, nilS]).toArray TRx) := hX5; have HG5 := Lib.hid hg5; clear hX5 hg5)
            refine bodyPost_ret (results_row_tmp' Tryd.results72 _ _ w.heap.size TRx _ (0, 0) _ rfl HX5.out.eq Tryd.underlying36 rfl (by rw [sizeRx]; rfl) (.int .i64 ((at' : Int) + 1 + 1)) rfl) rfl ?_
            have O3 : OwnSp (w2.setCell ⟨w.heap.size + 1, 1, none⟩ (.slice A2 s.length c2)) wr.heap.size (.slice A2 s.length c2) s := O2.out.stay fun b hb => Below.heap_setCell _ _ _ _ (fun e => by have := HU.out b (mem_vblk.1 hb); have e' : b = w.heap.size + 1 := e; omega)
            exact parse_some (n := wr.heap.size) (r := .mk 1 s []) (at' := at' + 2) E.out rfl rfl (by omega) (by omega) rfl (OwnT.setOnly' 1 O3) (fun b hb => (O3.own.lt b (mem_vblk.1 hb)).1) (by omega) (below_set HB2.out (by simp) _) HG5.out
        · have i3 : (W.length : Int) ≤ (at' : Int) + 1 := by omega
          have E : Hid (ro = none) := by show _ = _; rw [HRO.out, List.drop_eq_nil_of_le (by omega)]; exact readW_set0 HKX.out
          go_wp2_with ((with_reducible refine at_st 6 49 ?_); refine ev_store (o := ⟨none, .store _ (.tmp 6) _, _, _, _, _⟩) rfl rfl TRx (.tmp 6) (.tmp 49) rfl (w.heap.size) 0 rfl [.int .i64 1, nilS, nilS] rfl _ TRx M0.out (sizeRx' _ _ _) (by show 0 + 3 ≤ 3; omega) (three_one _ _ _ _ _ _ _) ?_; intro w5 hX5 hg5; have HX5 : Hid (Blk w5 (w.heap.size) ([.int .i64 1, nilS, nilS]).toArray TRx) := hX5; have HG5 := Lib.hid hg5; clear hX5 hg5)
          refine bodyPost_ret (results_row_tmp' Tryd.results72 _ _ w.heap.size TRx _ (0, 0) _ rfl (HX5.out).eq Tryd.underlying36 rfl (by rw [sizeRx]; rfl) (.int .i64 (-1)) rfl) rfl ?_
          exact parse_none (E.out) (HB.out.grown HG5.out HB.out.size (fun q hq => by injection hq with hq; omega))
      · have k1' : (kx == 1) = false := by simp [k1]
        by_cases k0 : kx = 0
        · subst k0
          have E : Hid (ro = none) := by show _ = _; rw [HRO.out]; exact readW_bad HKX.out
          go_wp2_with fail
          refine (sKids_c _ _).mono ?_
          rintro e wk ⟨rfl, rfl⟩
          rw [show kidsOf 0 = -1 from rfl]
          go_wp2_with fail
          go_loopg [1, 12] 0 (fun n v1 v12 wx => v1 = .int .i64 ((at' : Int) + 1) ∧ v12 = .int .i64 (-1) ∧ wx = wr)
          case atStart => exact ⟨rfl, rfl, rfl⟩
          case round =>
            obtain ⟨rfl, rfl, rfl⟩ := hrel
            go_wp2_with ((with_reducible refine at_st 6 94 ?_); refine ev_store (o := ⟨none, .store _ (.tmp 6) _, _, _, _, _⟩) rfl rfl TRx (.tmp 6) (.tmp 94) rfl (w.heap.size) 0 rfl [.int .i64 0, nilS, nilS] rfl _ TRx M0.out (sizeRx' _ _ _) (by show 0 + 3 ≤ 3; omega) (three_one _ _ _ _ _ _ _) ?_; intro w5 hX5 hg5; have HX5 : Hid (Blk w5 (w.heap.size) ([.int .i64 0, nilS, nilS]).toArray TRx) := hX5; have HG5 := Lib.hid hg5; clear hX5 hg5)
            refine bodyPost_ret (results_row_tmp' Tryd.results72 _ _ w.heap.size TRx _ (0, 0) _ rfl (HX5.out).eq Tryd.underlying36 rfl (by rw [sizeRx]; rfl) (.int .i64 (-1)) rfl) rfl ?_
            exact parse_none (E.out) (HB.out.grown HG5.out HB.out.size (fun q hq => by injection hq with hq; omega))
        · have k0' : (kx == 0) = false := by simp [k0]
          have K7 : kind7 kx ∧ x = kw kx := by
            rcases KX with ⟨h, _⟩ | h
            · exact absurd h k0
            · exact h
          obtain ⟨n0', hn0, hn2⟩ : ∃ n : Nat, kidsOf kx = n ∧ n ≤ 2 := by
            rcases K7.1 with rfl | rfl | rfl | rfl | rfl | rfl | rfl
            · exact ⟨0, rfl, by omega⟩
            · exact ⟨0, rfl, by omega⟩
            · exact ⟨2, rfl, by omega⟩
            · exact ⟨2, rfl, by omega⟩
            · exact ⟨1, rfl, by omega⟩
            · exact ⟨2, rfl, by omega⟩
            · exact ⟨1, rfl, by omega⟩
          have ER : Hid (ro = (kidsLoop (readW d) n0' (W.drop (at' + 1)) []).map fun x => (.mk kx [] x.1, x.2)) := by
            show _ = _
            rw [HRO.out, readW_kids (by rw [HKX.out]; exact k0) (by rw [HKX.out]; exact k1), HKX.out, hn0]
            rfl
          clear KX K7 EX
          obtain ⟨i1, hi, hz0, hza, hz2⟩ := info_parts infoRx
          go_wp2_with fail
          refine (sKids_c _ _).mono ?_
          rintro e wk ⟨rfl, rfl⟩
          rw [hn0]
          go_wp2_with fail
          go_loopg [1, 12] n0' (fun n v1 v12 wx => v12 = .int .i64 n ∧ ∃ (at2 : Nat) (ks : List Rex) (A2 : Option Addr) (c2 : Nat) (L : List KInfo), v1 = .int .i64 at2 ∧ at2 ≤ W.length ∧ ks.length + n = n0' ∧ Hid (kidsLoop (readW d) n0' (W.drop (at' + 1)) [] = kidsLoop (readW d) n (W.drop at2) ks) ∧
            Hid (KApp wx (w.heap.size + 2) ks ks.length (.slice A2 ks.length c2) L) ∧ Hid (Blk wx (w.heap.size + 1) #[.int .i64 kx, nilS, .slice A2 ks.length c2] TRx) ∧ Hid (Blk wx w.heap.size #[.int .i64 0, nilS, nilS] TRx) ∧ Hid (Below w.heap.size w wx) ∧ Hid (w.heap.size + 2 ≤ wx.heap.size))
          case atStart => exact ⟨rfl, at' + 1, [], none, 0, [], by go_num, by omega, by simp, rfl, KApp.first _ _ _, M1, M0, HB, HZ⟩
          case round =>
            clear M0 M1 HB HZ n0 n1 n2 f1
            obtain ⟨rfl, at2, ks, A2, c2, L, rfl, hat2, hkn, HL, HX2, M1, M0, HB, HZ⟩ := hrel
            have n0 : wr.cell? ⟨w.heap.size + 1, 0, none⟩ = some (.int .i64 kx) := by rw [M1.out.cell]; rfl
            have n1 : wr.cell? ⟨w.heap.size + 1, 1, none⟩ = some nilS := by rw [M1.out.cell]; rfl
            have n2 : wr.cell? ⟨w.heap.size + 1, 2, none⟩ = some (.slice A2 ks.length c2) := by rw [M1.out.cell]; rfl
            by_cases hpos : 0 < gk
            · have hkl : ks.length ≤ 1 := by omega
              obtain ⟨gn, rfl⟩ : ∃ gn, gk = gn + 1 := ⟨gk - 1, by omega⟩
              go_wp2_with fail
              refine (IH.out g D at2 W wr (HS.out.below HB.out) hat2 hW HX.out).mono ?_
              rintro e w2 ⟨hp, b2⟩
              replace M0 := Lib.hid (M0.out.below b2)
              have M1' := Lib.hid (M1.out.below b2)
              have HB2 := Lib.hid (below_then HB.out b2)
              have HZ2 := Lib.hid (Nat.le_trans HZ.out b2.size)
              have B2 := Lib.hid b2
              clear n0 n1 n2 b2
              have n0 : w2.cell? ⟨w.heap.size + 1, 0, none⟩ = some (.int .i64 kx) := by rw [M1'.out.cell]; rfl
              have n1 : w2.cell? ⟨w.heap.size + 1, 1, none⟩ = some nilS := by rw [M1'.out.cell]; rfl
              have n2 : w2.cell? ⟨w.heap.size + 1, 2, none⟩ = some (.slice A2 ks.length c2) := by rw [M1'.out.cell]; rfl
              cases hr : readW d (W.drop at2) with
              | none =>
                rw [hr] at hp
                obtain ⟨k9, A9, m9, c9, K9, q9, ck9, rfl⟩ := hp
                have E : Hid (ro = none) := by show _ = _; rw [ER.out, HL.out, loop_none hr]; rfl
                clear hr
                obtain ⟨wD, hwD⟩ : ∃ y, y = w2.alloc (.cells #[.int .i64 k9, .slice A9 m9 c9, .slice K9 q9 ck9] TRx) := ⟨_, rfl⟩
                have bD : Below w2.heap.size w2 wD := by rw [hwD]; exact below_alloc (Below.refl _ _) _
                have M0D := Lib.hid (M0.out.below bD)
                have HBD := Lib.hid (below_then HB2.out bD)
                have m0 : wD.cell? ⟨w.heap.size + 1, 0, none⟩ = some (.int .i64 kx) := by rw [(M1'.out.below bD).cell]; rfl
                have m1 : wD.cell? ⟨w.heap.size + 1, 1, none⟩ = some nilS := by rw [(M1'.out.below bD).cell]; rfl
                have m2 : wD.cell? ⟨w.heap.size + 1, 2, none⟩ = some (.slice A2 ks.length c2) := by rw [(M1'.out.below bD).cell]; rfl
                replace hwD := hwD.symm
                clear bD n0 n1 n2
                go_wp2_with ((with_reducible refine at_st 6 83 ?_); refine ev_store (o := ⟨none, .store _ (.tmp 6) _, _, _, _, _⟩) rfl rfl TRx (.tmp 6) (.tmp 83) rfl (w.heap.size) 0 rfl [.int .i64 kx, nilS, .slice A2 ks.length c2] rfl _ TRx M0D.out (sizeRx' _ _ _) (by show 0 + 3 ≤ 3; omega) (three_one _ _ _ _ _ _ _) ?_; intro w5 hX5 hg5; have HX5 : Hid (Blk w5 (w.heap.size) ([.int .i64 kx, nilS, .slice A2 ks.length c2]).toArray TRx) := hX5; have HG5 := Lib.hid hg5; clear hX5 hg5)
                refine bodyPost_ret (results_row_tmp' Tryd.results72 _ _ w.heap.size TRx _ (0, 0) _ rfl (HX5.out).eq Tryd.underlying36 rfl (by rw [sizeRx]; rfl) (.int .i64 (-1)) rfl) rfl ?_
                exact parse_none (E.out) (HBD.out.grown HG5.out HBD.out.size (fun q hq => by injection hq with hq; omega))
              | some res =>
                obtain ⟨r, rest⟩ := res
                rw [hr] at hp
                obtain ⟨A4, c4, K4, d4, fp, at3, rfl, ha3, hr3, ho, hnd, hf⟩ := hp
                have HL2 : Hid (kidsLoop (readW d) n0' (W.drop (at' + 1)) [] = kidsLoop (readW d) gn (W.drop at3) (ks ++ [r])) := by show _ = _; rw [HL.out, loop_some hr, hr3]
                clear hr hr3
                obtain ⟨wD, hwD⟩ : ∃ y, y = w2.alloc (.cells #[.int .i64 r.kind, .slice A4 r.set.length c4, .slice K4 r.kids.length d4] TRx) := ⟨_, rfl⟩
                have bD : Below w2.heap.size w2 wD := by rw [hwD]; exact below_alloc (Below.refl _ _) _
                have mD : Blk wD w2.heap.size #[.int .i64 r.kind, .slice A4 r.set.length c4, .slice K4 r.kids.length d4] TRx := by rw [hwD]; exact blk_new w2 _ _
                have M0D := Lib.hid (M0.out.below bD)
                have M1D := Lib.hid (M1'.out.below bD)
                have HBD := Lib.hid (below_then HB2.out bD)
                have BD := Lib.hid (below_then B2.out bD)
                have HO := Lib.hid (ho.under bD)
                have HF := Lib.hid hf
                have HND := Lib.hid hnd
                have hzD : wr.heap.size ≤ wD.heap.size := BD.out.size
                have HZD := Lib.hid (Nat.le_trans HZ.out hzD)
                have m2 : wD.cell? ⟨w.heap.size + 1, 2, none⟩ = some (.slice A2 ks.length c2) := by rw [M1D.out.cell]; rfl
                have e0 : wD.cell? ⟨w2.heap.size, 0, none⟩ = some (.int .i64 r.kind) := by rw [mD.cell]; rfl
                have e1 : wD.cell? ⟨w2.heap.size, 1, none⟩ = some (.slice A4 r.set.length c4) := by rw [mD.cell]; rfl
                have e2 : wD.cell? ⟨w2.heap.size, 2, none⟩ = some (.slice K4 r.kids.length d4) := by rw [mD.cell]; rfl
                replace hwD := hwD.symm
                have HOW := Lib.hid (own_below HX2.out.own BD.out)
                have HVK : Hid (∀ b, b ∈ vblk (.slice A2 ks.length c2) → w.heap.size + 2 ≤ b) := fun b hb => HX2.out.lo b (by simp [hb])
                have HBB : Hid (∀ q, (Value.slice A2 ks.length c2).ownBlock = some q → q ≠ w.heap.size + 1) := fun q hq e => by have := HVK.out q (mem_vblk.2 hq); omega
                have HBB0 : Hid (∀ q, (Value.slice A2 ks.length c2).ownBlock = some q → q ≠ w.heap.size) := fun q hq e => by have := HVK.out q (mem_vblk.2 hq); omega
                have hzd := HZD.out
                clear bD mD n0 n1 n2 ho hf hnd
                go_wp2_with (at_builtin; refine wpList_append_row (by rfl) (.tmp 85) (.tmp 87) 34 (by rfl) (w.heap.size + 2) TRx i1 (.agg #[.int .i64 0, nilS, nilS]) 3 56 Tryd.underlying34 hi hz0 hza hz2 rfl (by decide) (.slice A2 ks.length c2) ks.length (kcells (ks.take ks.length) L) (by rfl) (own_below HOW.out (below_alloc (Below.refl _ _) _)) (some ⟨wD.heap.size, 0, none⟩) 1 1 [.int .i64 r.kind, .slice A4 r.set.length c4, .slice K4 r.kids.length d4] (by rfl) (.inr ⟨⟨wD.heap.size, 0, none⟩, rfl, Nat.zero_le _, new_cells wD [.int .i64 r.kind, .slice A4 r.set.length c4, .slice K4 r.kids.length d4] TRx⟩) rfl (three_one _ _ _ _ _ _ _) (by unfold maxLen; omega) (by omega) (by simp; omega) _ rfl (ks.length + 1) rfl ?_; intro A5 c5 wE hown hgrow hat5; have HE := Lib.hid hown; have HG := Lib.hid hgrow; have HAT := Lib.hid hat5; have ZB := ((M1D.out).alloc (.cells #[.int .i64 r.kind, .slice A4 r.set.length c4, .slice K4 r.kids.length d4] TRx)).grown hgrow HBB.out; have q2 := (ZB.cell 2).trans rfl; have f2 := ZB.free 2; have HZB := Lib.hid ZB; clear ZB hown hgrow hat5)
                go_roundg gn
                case measure => omega
                case rel =>
                  have eL : (ks ++ [r]).length = ks.length + 1 := by simp
                  have zA : (wD.alloc (.cells #[.int .i64 r.kind, .slice A4 r.set.length c4, .slice K4 r.kids.length d4] TRx)).heap.size = wD.heap.size + 1 := by simp
                  have zE := HG.out.size
                  refine ⟨by go_num, at3, ks ++ [r], A5, c5, L ++ [⟨fp, .slice A4 r.set.length c4, .slice K4 r.kids.length d4⟩], rfl, ha3, ?_⟩
                  rw [eL]
                  refine ⟨by omega, HL2, ?_, Lib.hid (by simpa using HZB.out.set 2 (.slice A5 (ks.length + 1) c5)), ?_, ?_, ?_⟩
                  · exact (HX2.out.more r).snoc (r := r) (by simp) BD.out HO.out HF.out HND.out (by have h9 := HE.out; rw [List.take_length] at h9; rw [List.take_left]; exact h9) HG.out HAT.out (by omega) HZ.out
                  · exact Blk.far ((M0D.out.alloc _).grown HG.out HBB0.out) (by simp) _
                  · exact below_set ((below_alloc HBD.out _).grown HG.out (by simp; omega) fun q hq => by have := HVK.out q (mem_vblk.2 hq); omega) (by simp) _
                  · show _ ≤ _; rw [World.size_setCell]; exact Nat.le_trans (Nat.le_trans HZD.out (by simp)) HG.out.size
            · obtain rfl : gk = 0 := by omega
              have hkl : ks.length = n0' := by omega
              have HOK := HX2.out.done rfl (by unfold maxN; omega)
              have HOT : Hid (OwnT wr (vblk (.slice A2 ks.length c2) ++ fps L) (.mk kx [] ks) nilS (.slice A2 ks.length c2)) := by
                have := OwnT.of (k := kx) (OwnSp.nil wr 0) HOK (by rw [vblk_nil]; exact HOK.nd)
                rw [vblk_nil] at this
                exact this
              have HFK : Hid (∀ b, b ∈ vblk (.slice A2 ks.length c2) ++ fps L → w.heap.size + 2 ≤ b) := fun b hb => HX2.out.lo b hb
              have E : Hid (ro = some (.mk kx [] ks, W.drop at2)) := by show _ = _; rw [ER.out, HL.out, kidsLoop]; rfl
              clear HX2 HOK hkl hkn hn0 hn2
              go_wp2_with ((with_reducible refine at_st 6 95 ?_); refine ev_store (o := ⟨none, .store _ (.tmp 6) _, _, _, _, _⟩) rfl rfl TRx (.tmp 6) (.tmp 95) rfl (w.heap.size) 0 rfl [.int .i64 kx, nilS, .slice A2 ks.length c2] rfl _ TRx M0.out (sizeRx' _ _ _) (by show 0 + 3 ≤ 3; omega) (three_one _ _ _ _ _ _ _) ?_; intro w5 hX5 hg5; have HX5 : Hid (Blk w5 (w.heap.size) ([.int .i64 kx, nilS, .slice A2 ks.length c2]).toArray TRx) := hX5; have HG5 := Lib.hid hg5; clear hX5 hg5)
              refine bodyPost_ret (results_row_tmp' Tryd.results72 _ _ w.heap.size TRx _ (0, 0) _ rfl HX5.out.eq Tryd.underlying36 rfl (by rw [sizeRx]; rfl) (.int .i64 (at2 : Int)) rfl) rfl ?_
              exact parse_some (n := w.heap.size + 2) (r := .mk kx [] ks) E.out rfl rfl rfl hat2 rfl HOT.out HFK.out (by omega) HB.out HG5.out

theorem sParse_c : ∀ d : Nat, d ≤ 9 → ParseOk d
  | 0, _ => fun g D at' W w _ _ _ _ => sParse_bad 0 g D at' W w (.inl rfl)
  | d + 1, hd => fun g D at' W w hS hat hW hx => by
    by_cases h : at' < W.length
    · exact sParse_step d g D at' W w hS h hW hx (by omega) (sParse_c d (by omega))
    · exact sParse_bad (d + 1) g D at' W w (.inr (by omega))

end Go.Proofs.YtlchipjckgaclaaDoor
