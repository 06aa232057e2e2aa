/- Texts joined for the claims: St Rt. -/
import Derived.Test.YtlchipjckgaclaaDoorG10
import Derived.Test.YtlchipjckgaclaaDoorG2
import Derived.Test.YtlchipjckgaclaaDoorG7
import Derived.Test.YtlchipjckgaclaaDoorG1
/- SetRead of the program, walked. -/
namespace Go.Proofs.YtlchipjckgaclaaDoor
set_option linter.unusedSimpArgs false
set_option linter.unusedVariables false
set_option maxRecDepth 100000
open Go.RowKit

def MaxL (w : World) : Prop := ∃ m : Int, w.cell? ⟨0, 0, none⟩ = some (.int .i64 m)
theorem MaxL.below {w w' : World} (h : MaxL w) (hb : Below w.heap.size w w') : MaxL w' := by
  obtain ⟨m, hm⟩ := h
  exact ⟨m, (hb.cell (World.block_lt_of_cell? w _ hm)).trans hm⟩
theorem cutV_no {x : List UInt8} (h : Lib.indexByte x 45 < 0) : cutV (str x) 45 = .tuple #[.string (str x), .string (str []), .bool false] := by
  unfold cutV
  rw [str_data, if_pos h]
theorem cutV_at {x : List UInt8} {j : Nat} (h : Lib.indexByte x 45 = j) : cutV (str x) 45 = .tuple #[.string (str (x.take j)), .string (str (x.drop (j + 1))), .bool true] := by
  unfold cutV
  rw [str_data, if_neg (by omega), h]
  rfl
theorem natI_none {l : List UInt8} (h : natural l = none) : natI l = none := by unfold natI; rw [h]; rfl
theorem natI_some {l : List UInt8} {m : Nat} (h : natural l = some m) : natI l = some (m : Int) := by unfold natI; rw [h]; rfl
theorem iSplit44_c (t : ByteArray) (w : World) (hs : t.size ≤ 1048576) (hm : MaxL w) :
    Calls Tryd.prog 63 #[.string t, .string ⟨#[44]⟩] w fun e w' => ∃ g, e = .returned (.slice (some ⟨g, 0, none⟩) (cutAt 44 t.data.toList).length (cutAt 44 t.data.toList).length) ∧ w'.ownsRow w.heap.size TStr 1 (.slice (some ⟨g, 0, none⟩) (cutAt 44 t.data.toList).length (cutAt 44 t.data.toList).length) (cutAt 44 t.data.toList).length (strsV (cutAt 44 t.data.toList)) ∧ Below w.heap.size w w' :=
  hm.elim fun m hm => iSplit_c t 44 m w hs hm
theorem iCut45_c (t : ByteArray) (w : World) (hs : t.size ≤ 1048576) (hm : MaxL w) :
    Calls Tryd.prog 64 #[.string t, .string ⟨#[45]⟩] w fun e w' => e = .returned (cutV t 45) ∧ Below w.heap.size w w' :=
  hm.elim fun m hm => iCut_c t 45 m w hs hm

set_option maxHeartbeats 4000000 in
theorem iSetRead_c (t : ByteArray) (w : World) (hs : t.size ≤ 1048576) (hp : Pow10 w) (hm : MaxL w) :
    Calls Tryd.prog 27 #[.string t] w (ReadPost (readSet t.data.toList) w) := by
  have HP := Lib.hid hp
  have HM := Lib.hid hm
  clear hp hm
  have HL := Lib.hid (bytes_len t)
  obtain ⟨i0, hi, hz0, hz1, hz2⟩ := info_parts infoSp
  go_enter Tryd.func27, Tryd.ntmps27
  by_cases hno : t.data.toList = [110, 111]
  · have d0 := txt_is hno
    have E : Hid (readSet t.data.toList = some []) := by show _ = _; rw [hno]; exact read_no _
    clear hno
    go_wp2_with fail
    exact bodyPost_ret (v := .tuple #[.slice none 0 0, .bool true]) (by simp [results, Tryd.results27, go_sem]) rfl (ReadPost.some E.out (OwnSp.nil _ _) (Below.refl _ _))
  have d0 := txt_ne hno
  by_cases hlong : 1200 < t.size
  · have d1 : (1200 : Int) < (t.size : Int) := by omega
    have E : Hid (readSet t.data.toList = none) := read_long hno (by rw [HL.out]; exact hlong)
    clear hno hlong
    go_wp2_with fail
    exact bodyPost_ret (v := .tuple #[.slice none 0 0, .bool false]) (by simp [results, Tryd.results27, go_sem]) rfl (ReadPost.none E.out (Below.refl _ _))
  have d1 : ¬ (1200 : Int) < (t.size : Int) := by omega
  have HNO := Lib.hid hno
  have HNL : Hid (¬ 1200 < t.data.toList.length) := by show ¬ _; rw [HL.out]; exact hlong
  clear hno
  go_wp2_with fail
  refine (iSplit44_c t w hs HM.out).mono ?_
  rintro e w1 ⟨g1, rfl, hown, b1⟩
  obtain ⟨W, hW⟩ : ∃ W, W = cutAt 44 t.data.toList := ⟨_, rfl⟩
  have hWp : 0 < W.length := by rw [hW]; exact List.length_pos_iff.2 (cutAt_pos _ _)
  have hWl : W.length ≤ 1201 := by have := cutAt_len 44 t.data.toList; rw [hW]; rw [HL.out] at this; omega
  have HWM : Hid (∀ v ∈ W, v.length ≤ 1200) := fun v hv => by
    have := cutAt_mem 44 t.data.toList v (by rw [← hW]; exact hv)
    have := HNL.out
    omega
  rw [← hW] at hown ⊢
  have HWW := Lib.hid hW
  clear hW
  have HS0 := Lib.hid hown
  have HB1 := Lib.hid b1
  clear hown b1
  go_wp2_with fail
  go_loopg [4, 22] W.length (fun n v4 v22 wr => ∃ k : Nat, k + n = W.length ∧ v22 = .int .i64 k ∧ ∃ xs : List Sp, Hid (OwnSp wr w.heap.size v4 xs) ∧ Hid (RdSt rdI W k xs) ∧ Hid (Below w.heap.size w wr) ∧ Hid (wr.ownsRow w.heap.size TStr 1 (.slice (some ⟨g1, 0, none⟩) W.length W.length) W.length (strsV W)) ∧ Hid (∀ b, v4.ownBlock = some b → b ≠ g1))
  case atStart => exact ⟨0, by omega, rfl, [], OwnSp.nil _ _, RdSt.start _ _, HB1, HS0, fun b hb => by cases hb⟩
  case round =>
    clear HB1 HS0
    obtain ⟨k, hk, rfl, xs, HO, HR, HB, HS, HA⟩ := hrel
    by_cases hlt : k < W.length
    · have k0 : (0 : Int) ≤ (k : Int) := by omega
      have k1 : (k : Int) < (W.length : Int) := by omega
      obtain ⟨x, hx⟩ : ∃ x, W[k]? = some x := ⟨_, List.getElem?_eq_getElem hlt⟩
      have HW := Lib.hid hx
      have hxl : x.length ≤ 1200 := HWM.out x (List.mem_of_getElem? hx)
      have hxs : (str x).size ≤ 1048576 := by rw [str_size]; omega
      have c0 : wr.cell? ⟨g1, k, none⟩ = some (.string (str x)) := by
        rw [HS.out.cellAt k (by omega)]
        unfold strsV
        rw [List.getElem?_map, hx]
        rfl
      clear hx
      go_wp2_with fail
      refine (iCut45_c (str x) wr hxs (HM.out.below HB.out)).mono ?_
      rintro e w2 ⟨rfl, b2⟩
      replace HO := Lib.hid (HO.out.below b2)
      replace HB := Lib.hid (below_then HB.out b2)
      replace HS := Lib.hid (own_below HS.out b2)
      clear c0 b2
      obtain ⟨wr', hwr⟩ : ∃ v, v = wr := ⟨_, rfl⟩
      clear hwr
      clear wr
      obtain ⟨wr, hwr⟩ : ∃ v, v = w2 := ⟨_, rfl⟩
      rw [← hwr] at HO HB HS ⊢
      clear hwr
      clear w2
      by_cases hneg : Lib.indexByte x 45 < 0
      · have HX0 := Lib.hid (rd_none (f := natI) hneg)
        rw [cutV_no hneg]
        clear hneg
        go_wp2_with fail
        refine (iNatural_c (str x) wr (by omega)).mono ?_
        rintro e w2 ⟨rfl, rfl⟩
        rw [str_data]
        cases ho : natural x with
        | none =>
          have E : Hid (readSet t.data.toList = none) := read_bad HNO.out (by rw [← HWW.out]; exact RdSt.bad HW.out (by show rdOf natI x = none; rw [HX0.out, natI_none ho]; rfl))
          clear ho
          go_wp2_with fail
          exact bodyPost_ret (v := .tuple #[.slice none 0 0, .bool false]) (by simp [results, Tryd.results27, go_sem]) rfl (ReadPost.none E.out HB.out)
        | some m =>
          have HX : Hid (rdI x = some ⟨m, m⟩) := by show rdOf natI x = _; rw [HX0.out, natI_some ho]; rfl
          clear ho HX0
          have hrl := HR.out.len
          have hn1 : xs.length + 1 ≤ maxLen := by unfold maxLen; omega
          have hn2 : (xs.length + 1) * 16 ≤ 140737488355328 := by omega
          have hsz := HB.out.size
          have hgs : g1 < wr.heap.size := ((own_base HS.out) g1 rfl).2
          go_wp2_with (at_builtin; refine wpList_append_own_at _ rfl (.tmp 51) (.tmp 55) 25 rfl w.heap.size TSp i0 (.agg #[.int .i64 0, .int .i64 0]) 2 16 Tryd.underlying25 hi hz0 hz1 hz2 rfl (by decide) u4 _ _ rfl (HO.out.own.alloc _) ⟨wr.heap.size, 0, none⟩ 1 1 [.int .i64 (m : Int), .int .i64 (m : Int)] rfl rfl (new_cells wr [.int .i64 (m : Int), .int .i64 (m : Int)] TSp) (two_one _ _) hn1 hn2 (by simp; omega) ?_; intro v' w2 hown' hgrow _ hat)
          have hbs := own_base HO.out.own
          go_roundg (gk - 1)
          case measure => omega
          case rel =>
            refine ⟨k + 1, by omega, by go_num, xs ++ [(⟨(m : Int), (m : Int)⟩ : Sp)], OwnSp.snoc hown', HR.out.step HW.out HX.out, (below_alloc HB.out _).grown hgrow (by simp; omega) (fun q hq => (hbs q hq).1), own_move (own_below HS.out (below_alloc (Below.refl wr.heap.size wr) _)) (fun b hb => hgrow.block b ?_ ?_), fun b hb => ?_⟩
            · have : b = g1 := by injection hb with hb; exact hb.symm
              subst this
              simp
              omega
            · have : b = g1 := by injection hb with hb; exact hb.symm
              subst this
              intro h
              exact HA.out _ h.symm rfl
            · rcases hat with h | h
              · exact HA.out b (h.symm.trans hb)
              · rw [h] at hb
                injection hb with hb
                simp at hb
                omega
      · have HX0 := Lib.hid (rd_some (f := natI) hneg)
        have hj0 : ∃ j : Nat, Lib.indexByte x 45 = j ∧ j < x.length := by
          have h0 := Lib.indexByte_ge x 45
          obtain ⟨j, hj⟩ : ∃ j : Nat, Lib.indexByte x 45 = j := ⟨(Lib.indexByte x 45).toNat, by omega⟩
          exact ⟨j, hj, (List.getElem?_eq_some_iff.1 (Lib.indexByte_some hj).1).1⟩
        obtain ⟨j, hj, hjl⟩ := hj0
        rw [hj, show ((j : Nat) : Int).toNat = j by omega] at HX0
        rw [cutV_at hj]
        clear hneg hj
        go_wp2_with fail
        refine (iNatural_c _ wr (by rw [str_size, List.length_take]; omega)).mono ?_
        rintro e w2 ⟨rfl, rfl⟩
        rw [str_data]
        go_wp2_with fail
        refine (iNatural_c _ wr (by rw [str_size, List.length_drop]; omega)).mono ?_
        rintro e w2 ⟨rfl, rfl⟩
        rw [str_data]
        cases ho1 : natural (x.take j) with
        | none =>
          have E : Hid (readSet t.data.toList = none) := read_bad HNO.out (by rw [← HWW.out]; exact RdSt.bad HW.out (by show rdOf natI x = none; rw [HX0.out, natI_none ho1]))
          obtain ⟨o2, ho2⟩ : ∃ o, o = natural (x.drop (j + 1)) := ⟨_, rfl⟩
          rw [← ho2]
          clear ho1 ho2
          go_wp2_with fail
          exact bodyPost_ret (v := .tuple #[.slice none 0 0, .bool false]) (by simp [results, Tryd.results27, go_sem]) rfl (ReadPost.none E.out HB.out)
        | some m1 =>
          cases ho2 : natural (x.drop (j + 1)) with
          | none =>
            have E : Hid (readSet t.data.toList = none) := read_bad HNO.out (by rw [← HWW.out]; exact RdSt.bad HW.out (by show rdOf natI x = none; rw [HX0.out, natI_some ho1, natI_none ho2]))
            clear ho1 ho2
            go_wp2_with fail
            exact bodyPost_ret (v := .tuple #[.slice none 0 0, .bool false]) (by simp [results, Tryd.results27, go_sem]) rfl (ReadPost.none E.out HB.out)
          | some m2 =>
            have HX : Hid (rdI x = some ⟨m1, m2⟩) := by show rdOf natI x = _; rw [HX0.out, natI_some ho1, natI_some ho2]
            clear ho1 ho2 HX0 hjl
            have hrl := HR.out.len
            have hn1 : xs.length + 1 ≤ maxLen := by unfold maxLen; omega
            have hn2 : (xs.length + 1) * 16 ≤ 140737488355328 := by omega
            have hsz := HB.out.size
            have hgs : g1 < wr.heap.size := ((own_base HS.out) g1 rfl).2
            go_wp2_with (at_builtin; refine wpList_append_own_at _ rfl (.tmp 51) (.tmp 55) 25 rfl w.heap.size TSp i0 (.agg #[.int .i64 0, .int .i64 0]) 2 16 Tryd.underlying25 hi hz0 hz1 hz2 rfl (by decide) u4 _ _ rfl (HO.out.own.alloc _) ⟨wr.heap.size, 0, none⟩ 1 1 [.int .i64 (m1 : Int), .int .i64 (m2 : Int)] rfl rfl (new_cells wr [.int .i64 (m1 : Int), .int .i64 (m2 : Int)] TSp) (two_one _ _) hn1 hn2 (by simp; omega) ?_; intro v' w2 hown' hgrow _ hat)
            have hbs := own_base HO.out.own
            go_roundg (gk - 1)
            case measure => omega
            case rel =>
              refine ⟨k + 1, by omega, by go_num, xs ++ [(⟨(m1 : Int), (m2 : Int)⟩ : Sp)], OwnSp.snoc hown', HR.out.step HW.out HX.out, (below_alloc HB.out _).grown hgrow (by simp; omega) (fun q hq => (hbs q hq).1), own_move (own_below HS.out (below_alloc (Below.refl wr.heap.size wr) _)) (fun b hb => hgrow.block b ?_ ?_), fun b hb => ?_⟩
              · have : b = g1 := by injection hb with hb; exact hb.symm
                subst this
                simp
                omega
              · have : b = g1 := by injection hb with hb; exact hb.symm
                subst this
                intro h
                exact HA.out _ h.symm rfl
              · rcases hat with h | h
                · exact HA.out b (h.symm.trans hb)
                · rw [h] at hb
                  injection hb with hb
                  simp at hb
                  omega
    · have hkl : k = W.length := by omega
      subst hkl
      have HE := Lib.hid HR.out.fin
      have H64 := Lib.hid (rdSt_in (fun w x h => rdI_in h) HR.out)
      have hrl := HR.out.len
      have HRE := Lib.hid (read_end (f := rdI) HNO.out HNL.out (by rw [← HWW.out]; exact HE.out))
      obtain ⟨A, c, rfl, hs2⟩ := HO.out.sps
      go_wp2_with fail
      refine (iSetOk_c A c xs wr hs2).mono ?_
      rintro e w3 ⟨rfl, b3⟩
      by_cases hok : setOk xs = true
      · rw [hok] at HRE ⊢
        go_wp2_with fail
        refine (iSetText_c A c xs w3 (hs2.below b3) H64.out (by omega) (HP.out.below (below_then HB.out b3))).mono ?_
        rintro e w4 ⟨rfl, b4⟩
        have B4 := Lib.hid (below_then HB.out (below_then b3 b4))
        have HO4 := Lib.hid (HO.out.below (below_then b3 b4))
        have HS4 := Lib.hid (hs2.below (below_then b3 b4))
        by_cases he : setTxt xs = t.data.toList
        · have HF : Hid (readSet t.data.toList = some xs) := by show readOf rdI _ = _; rw [HRE.out, he]; simp
          rw [he, str_of]
          clear he HRE HE
          go_wp2_with fail
          refine (copiedSpan_c A c _ (spcs xs) _ HS4.out.row (spcs_length _) (spcs_one _) (by omega)).mono ?_
          rintro e w5 ⟨v5, rfl, o5, b5⟩
          have B5 := Lib.hid (below_then B4.out b5)
          have O5 : Hid (OwnSp w5 w.heap.size v5 xs) := ⟨own_lower o5 B4.out.size, HS4.out.len⟩
          clear o5 b5
          go_wp2_with fail
          exact bodyPost_ret (v := .tuple #[v5, .bool true]) (by simp [results, Tryd.results27, go_sem]) rfl (ReadPost.some HF.out O5.out B5.out)
        · have HF : Hid (readSet t.data.toList = none) := by show readOf rdI _ = _; rw [HRE.out, decide_eq_false he]; rfl
          obtain ⟨T, hT⟩ : ∃ T, T = str (setTxt xs) := ⟨_, rfl⟩
          have hne : T ≠ t := fun e => he (str_inj (by rw [← hT, e, str_of]))
          have hne2 : T.toList ≠ t.toList := fun e => hne (ByteArray.ext (Array.toList_inj.1 (by rw [← ByteArray.toList_eq, ← ByteArray.toList_eq]; exact e)))
          have q0 : (T.toList != t.toList) = true := by rw [bne_iff_ne]; exact hne2
          have q1 : (T.toList == t.toList) = false := by rw [beq_eq_false_iff_ne]; exact hne2
          have q2 : decide (T.toList = t.toList) = false := decide_eq_false hne2
          rw [← hT]
          clear he HRE HE hT
          go_wp2_with fail
          exact bodyPost_ret (v := .tuple #[.slice none 0 0, .bool false]) (by simp [results, Tryd.results27, go_sem]) rfl (ReadPost.none HF.out B4.out)
      · rw [eq_false_of_ne_true hok] at HRE ⊢
        go_wp2_with fail
        exact bodyPost_ret (v := .tuple #[.slice none 0 0, .bool false]) (by simp [results, Tryd.results27, go_sem]) rfl (ReadPost.none HRE.out (below_then HB.out b3))

end Go.Proofs.YtlchipjckgaclaaDoor

/- readRex of the program, walked. -/
namespace Go.Proofs.YtlchipjckgaclaaDoor
set_option linter.unusedSimpArgs false
set_option linter.unusedVariables false
set_option maxRecDepth 100000
open Go.RowKit

theorem StrAt.up {w w' : World} {g off : Nat} {ws : List (List UInt8)} (h : StrAt w' g off ws) (hg : g < w.heap.size) (hb : Below w.heap.size w w') : StrAt w g off ws :=
  ⟨fun i x hx => by rw [← h.cell i x hx]; exact (World.cell?_of_block (w := w) (by show w'.heap[g]? = w.heap[g]?; exact hb.block g hg)).symm⟩
/-- what readRex leaves -/
def ReadRPost (n g : Nat) (o : Option (Rex × List (List UInt8))) (e : Ending) (w' : World) : Prop :=
  match o with
  | none => ∃ k A n1 c K n2 ck, e = .returned (.tuple #[.agg #[.int .i64 k, .slice A n1 c, .slice K n2 ck], .slice none 0 0, .bool false])
  | some (r, rest) => ∃ A c K ck fp off, e = .returned (.tuple #[.agg #[.int .i64 r.kind, .slice A r.set.length c, .slice K r.kids.length ck], .slice (some ⟨g, off, none⟩) rest.length rest.length, .bool true]) ∧ StrAt w' g off rest ∧
      OwnT w' fp r (.slice A r.set.length c) (.slice K r.kids.length ck) ∧ fp.Nodup ∧ ∀ b, b ∈ fp → n ≤ b
def ReadROk (d : Nat) : Prop := ∀ (g off : Nat) (ws : List (List UInt8)) (w : World), StrAt w g off ws → ws.length ≤ 4001 → (∀ x ∈ ws, x.length ≤ 4000) → Pow10 w → MaxL w →
  Calls Tryd.prog 73 #[.slice (some ⟨g, off, none⟩) ws.length ws.length, .int .i64 (d : Nat)] w fun e w' => ReadRPost w.heap.size g (readW d ws) e w' ∧ Below w.heap.size w w'
theorem results_row_tmp2' {P : Program} {fn : Func} {p u v : Tmp} {ty : TypeId} (h : fn.results = #[.cell p ty, .tmp u, .tmp v]) (tmps : Array Value) (w : World) (g : Nat) (t : TypeId) (cs : Array Value) (fr : Nat × Nat) (d : TypeDesc)
    (hp : tmps.getD p undef = .pointer (some ⟨g, 0, none⟩)) (hg : w.heap[g]? = some (.cells cs t fr))
    (hu : P.underlying ty = some d) (hd : (match d with | .struct _ | .array _ _ => true | _ => false) = true) (hi : (P.info? ty).map (·.size) = some cs.size) (x y : Value) (hx : tmps.getD u undef = x) (hy : tmps.getD v undef = y) :
    (results fn tmps).run P w = .ok (.tuple #[.agg cs, x, y]) w := by
  have hp' : tmps[p]?.getD undef = .pointer (some ⟨g, 0, none⟩) := by simpa using hp
  have hx' : tmps[u]?.getD undef = x := by simpa using hx
  have hy' : tmps[v]?.getD undef = y := by simpa using hy
  simp [results, h, hp', hx', hy', asAddr, run_loadVar_row w g t ty cs fr d hg hu hd hi]
theorem readr_none {g : Nat} {o : Option (Rex × List (List UInt8))} {w w' : World} {k : Int} {A K : Option Addr} {n1 c n2 ck : Nat} (ho : o = none) (hb : Below w.heap.size w w') :
    ReadRPost w.heap.size g o (.returned (.tuple #[.agg #[.int .i64 k, .slice A n1 c, .slice K n2 ck], .slice none 0 0, .bool false])) w' ∧ Below w.heap.size w w' := by
  subst ho
  exact ⟨⟨k, A, n1, c, K, n2, ck, rfl⟩, hb⟩
theorem readr_some {n g off m : Nat} {o : Option (Rex × List (List UInt8))} {rest : List (List UInt8)} {w wr w5 : World} {r : Rex} {fp : List Nat} {A K : Option Addr} {n1 n2 c ck : Nat} (ho : o = some (r, rest)) (e1 : n1 = r.set.length) (e2 : n2 = r.kids.length) (em : m = rest.length) (hs : StrAt w5 g off rest)
    (HO : OwnT wr fp r (.slice A n1 c) (.slice K n2 ck)) (HF : ∀ b, b ∈ fp → n ≤ b) (hn : w.heap.size < n) (HB : Below w.heap.size w wr) (HG : wr.grownBy w5 (some w.heap.size)) :
    ReadRPost w.heap.size g o (.returned (.tuple #[.agg #[.int .i64 r.kind, .slice A n1 c, .slice K n2 ck], .slice (some ⟨g, off, none⟩) m m, .bool true])) w5 ∧ Below w.heap.size w w5 := by
  subst ho e1 e2 em
  obtain ⟨_, _, _, hnd, _⟩ := HO.parts
  refine ⟨⟨A, c, K, ck, fp, off, rfl, hs, ?_, hnd, fun b hb => by have := HF b hb; omega⟩, HB.grown HG HB.size fun q hq => by injection hq with hq; omega⟩
  exact HO.stay fun b hb => HG.block b (HO.lt b hb) fun e => by injection e with e; have := HF b hb; omega

set_option maxHeartbeats 1000000 in
theorem iRead_bad (d g off : Nat) (ws : List (List UInt8)) (w : World) (hd : d = 0 ∨ ws = []) :
    Calls Tryd.prog 73 #[.slice (some ⟨g, off, none⟩) ws.length ws.length, .int .i64 (d : Nat)] w fun e w' => ReadRPost w.heap.size g (readW d ws) e w' ∧ Below w.heap.size w w' := by
  have E : Hid (readW d ws = none) := by
    show _ = _
    rcases hd with rfl | rfl
    · exact readW_zero _
    · exact readW_nil _
  by_cases h1 : ws = []
  · subst h1
    clear hd
    rw [List.length_nil]
    go_enter Tryd.func73, Tryd.ntmps73
    go_wp2_with fail
    refine bodyPost_ret (results_row_tmp2' Tryd.results73 _ _ w.heap.size TRx _ (0, 0) _ rfl (blk_new w _ _).eq Tryd.underlying36 rfl (by rw [sizeRx]; rfl) (.slice none 0 0) (.bool false) rfl rfl) rfl ?_
    exact readr_none (E.out) (below_alloc (Below.refl _ _) _)
  · have hl : 0 < ws.length := List.length_pos_iff.2 h1
    have d0 : ((ws.length : Int) == 0) = false := by rw [beq_eq_false_iff_ne]; omega
    have d1 : ¬ ws.length = 0 := by omega
    obtain rfl : d = 0 := by rcases hd with h | h; exact h; exact absurd h h1
    clear hd h1
    go_enter Tryd.func73, Tryd.ntmps73
    go_wp2_with fail
    refine bodyPost_ret (results_row_tmp2' Tryd.results73 _ _ w.heap.size TRx _ (0, 0) _ rfl (blk_new w _ _).eq Tryd.underlying36 rfl (by rw [sizeRx]; rfl) (.slice none 0 0) (.bool false) rfl rfl) rfl ?_
    exact readr_none (E.out) (below_alloc (Below.refl _ _) _)

/-- the words behind the first -/
theorem slice_tail (w : World) (g off : Nat) (x : List UInt8) (ws : List (List UInt8)) (n : Nat) (hn : n = ws.length) : ∃ off1, (∀ wx, (Instr.slice 63 (.slice (some ⟨g, off, none⟩) (n + 1) (n + 1)) (some (.int .i64 1)) none none).run Tryd.prog wx = .ok (.slice (some ⟨g, off1, none⟩) n n) wx) ∧ ∀ w', StrAt w' g off (x :: ws) → StrAt w' g off1 ws := by
  have hel : Tryd.prog.elem 63 = 9 := by kernel_rfl
  have hu : Tryd.prog.underlying 63 = some (.slice (Tryd.prog.elem 63)) := by rw [hel]; exact Tryd.underlying63
  have hs : ∀ wx, (sizeOf 9).run Tryd.prog wx = .ok 1 wx := fun wx => by kernel_rfl
  have hb : ∀ wx, (Instr.slice 63 (.slice (some ⟨g, off, none⟩) (n + 1) (n + 1)) (some (.int .i64 1)) none none).run Tryd.prog wx = .ok (sliced (some ⟨g, off, none⟩) 1 (n + 1) (n + 1) 1) wx := fun wx => by
    rw [run_slice_l (t := 63) (a := some ⟨g, off, none⟩) (len := n + 1) (cap := n + 1) (ht := hu) (kl := .i64) (l := 1) (h0 := by decide) (h1 := by omega), hel, hs]
    rfl
  by_cases h0 : n = 0
  · refine ⟨off, fun wx => ?_, fun w' h => ⟨fun i y hy => ?_⟩⟩
    · rw [hb wx, h0]; rfl
    · have : ws = [] := List.length_eq_zero_iff.1 (by omega)
      rw [this] at hy; simp at hy
  · refine ⟨off + 1, fun wx => ?_, fun w' h => h.tail⟩
    rw [hb wx]
    have : ¬ n + 1 = 1 := by omega
    simp [sliced, h0, Addr.add]

set_option maxHeartbeats 4000000 in
theorem iRead_step (d g off : Nat) (x : List UInt8) (ws : List (List UInt8)) (w : World) (hS : StrAt w g off (x :: ws)) (hW : ws.length ≤ 4000) (hx : ∀ y ∈ x :: ws, y.length ≤ 4000) (hp : Pow10 w) (hm : MaxL w) (hd : d ≤ 8) (ih : ReadROk d) :
    Calls Tryd.prog 73 #[.slice (some ⟨g, off, none⟩) (ws.length + 1) (ws.length + 1), .int .i64 ((d + 1 : Nat))] w fun e w' => ReadRPost w.heap.size g (readW (d + 1) (x :: ws)) e w' ∧ Below w.heap.size w w' := by
  have hxl : x.length ≤ 4000 := hx x (by simp)
  obtain ⟨ro, hro⟩ : ∃ o, o = readW (d + 1) (x :: ws) := ⟨_, rfl⟩
  rw [← hro]
  have HRO := Lib.hid hro
  clear hro
  obtain ⟨n', hn'⟩ : ∃ n, n = ws.length := ⟨_, rfl⟩
  rw [← hn'] at hW ⊢
  have HN := Lib.hid hn'
  obtain ⟨off1, hsl, htl⟩ := slice_tail w g off x ws n' hn'
  have HS := Lib.hid hS
  have HGW : Hid (g < w.heap.size) := World.block_lt_of_cell? w _ (hS.cell 0 x rfl)
  have HX := Lib.hid hx
  have HT := Lib.hid htl
  have HP := Lib.hid hp
  have HM := Lib.hid hm
  have IH := Lib.hid ih
  clear hS hx ih hn' htl hp hm
  obtain ⟨wb, hwb⟩ : ∃ y, y = w.alloc zRx := ⟨_, rfl⟩
  have HB : Hid (Below w.heap.size w wb) := by rw [hwb]; exact below_alloc (Below.refl _ _) _
  have M0 : Hid (Blk wb w.heap.size #[.int .i64 0, nilS, nilS] TRx) := by rw [hwb]; exact blk_new w _ _
  have HZ : Hid (w.heap.size + 1 ≤ wb.heap.size) := by rw [hwb]; show _ ≤ _; simp
  have HW := Lib.hid hwb
  clear hwb
  have d0 : (((n' + 1 : Nat) : Int) == 0) = false := by rw [beq_eq_false_iff_ne]; omega
  have d0' : ((n' : Int) + 1 == 0) = false := by rw [beq_eq_false_iff_ne]; omega
  have d1 : ¬ (d : Int) + 1 < 1 := by omega
  go_enter Tryd.func73, Tryd.ntmps73
  go_wp2_with fail
  rw [← HW.out]
  clear HW
  go_loopg [7] 8 (fun n v wr => ∃ k : Nat, k + n = 9 ∧ 1 ≤ k ∧ k ≤ 8 ∧ v = .int .i64 k ∧ Hid (∀ j : Nat, 1 ≤ j → j < k → kw (j : Int) ≠ x) ∧ Hid (Blk wr w.heap.size #[.int .i64 0, nilS, nilS] TRx) ∧ Hid (Below w.heap.size w wr) ∧ Hid (w.heap.size + 1 ≤ wr.heap.size))
  case atStart => exact ⟨1, rfl, Nat.le_refl _, by omega, rfl, fun j h1 h2 => by omega, M0, HB, HZ⟩
  case round =>
    clear M0 HB HZ
    obtain ⟨k, hk, hk1, hk8, rfl, HJ, M0, HB, HZ⟩ := hrel
    by_cases hk7 : k ≤ 7
    · have i2 : (k : Int) ≤ 7 := by omega
      have HC : Hid (∀ w', Below wr.heap.size wr w' → w'.cell? ⟨g, off, none⟩ = some (.string (str x))) := fun w' hb' => by
        have := ((HS.out.below HB.out).below hb').cell 0 x rfl
        rwa [Nat.add_zero] at this
      go_wp2_with fail
      refine wp_region_held_drew (S := fun w' => w'.cell? ⟨g, off, none⟩ = some (.string (str x))) (by kernel_rfl) (HC.out _ (below_drew (Below.refl _ _))) (fun hHeld0 => ?_)
      refine wpAnyH_take (i := 0) (v := ?_) rfl (by kernel_rfl) (by kernel_rfl) (by kernel_rfl) (fun _ _ _ h => h) (Or.inl ⟨by rfl, ?_⟩) (by assumption) ?_
      rotate_left
      · (intro w hSw; (try dsimp only at hSw); go_simp; try with_reducible rfl)
      try simp only [Act.put, List.getElem_toArray, List.getElem_cons_zero, List.getElem_cons_succ, List.setIfInBounds_toArray, List.set_cons_zero, List.set_cons_succ]
      refine wpAnyH_take (i := 2) (v := ?_) rfl (by kernel_rfl) (by kernel_rfl) (by kernel_rfl) (fun _ _ _ h => h) (Or.inl ⟨by rfl, ?_⟩) (by assumption) ?_
      rotate_left
      · (intro w hSw; (try dsimp only at hSw); go_simp; try with_reducible rfl)
      try simp only [Act.put, List.getElem_toArray, List.getElem_cons_zero, List.getElem_cons_succ, List.setIfInBounds_toArray, List.set_cons_zero, List.set_cons_succ]
      refine wpAnyH_take (i := 3) (v := ?_) rfl (by kernel_rfl) (by kernel_rfl) (by kernel_rfl) (fun _ _ _ h => h) (Or.inl ⟨by rfl, ?_⟩) (by assumption) ?_
      rotate_left
      · (intro w hSw; (try dsimp only at hSw); go_simp; try with_reducible rfl)
      try simp only [Act.put, List.getElem_toArray, List.getElem_cons_zero, List.getElem_cons_succ, List.setIfInBounds_toArray, List.set_cons_zero, List.set_cons_succ]
      refine wpAnyH_take (i := 4) (v := ?_) rfl (by kernel_rfl) (by kernel_rfl) (by kernel_rfl) (fun _ _ _ h => h) (Or.inl ⟨by rfl, ?_⟩) (by assumption) ?_
      rotate_left
      · (intro w hSw; (try dsimp only at hSw); go_simp; try with_reducible rfl)
      try simp only [Act.put, List.getElem_toArray, List.getElem_cons_zero, List.getElem_cons_succ, List.setIfInBounds_toArray, List.set_cons_zero, List.set_cons_succ]
      refine wpAnyH_ready (rs := [1]) (by kernel_rfl) (by simp) ?_
      refine AllReadyH.cons (o := ⟨some 29, _, _, _, _, _⟩) rfl (fun K hK => ?_) AllReadyH.nil
      go_simp
      refine (iRexWord_c k wr.drew (kind7_nat hk1 hk7)).mono ?_
      rintro e w1 ⟨rfl, b1⟩
      have B1 := Lib.hid (below_then (below_drew (Below.refl wr.heap.size wr)) b1)
      obtain ⟨T, hT⟩ : ∃ l, l = str (kw (k : Int)) := ⟨_, rfl⟩
      rw [← hT]
      have HTT := Lib.hid hT
      clear b1 hT
      (try go_wp2_with fail)
      refine hK.out _ _ (HC.out w1 B1.out) (fun hHeld1 => ?_)
      clear hK K hHeld0
      try simp only [Act.put, List.getElem_toArray, List.getElem_cons_zero, List.getElem_cons_succ, List.setIfInBounds_toArray, List.set_cons_zero, List.set_cons_succ]
      refine wpAnyH_take (i := 5) (v := ?_) rfl (by kernel_rfl) (by kernel_rfl) (by kernel_rfl) (fun _ _ _ h => h) (Or.inl ⟨by rfl, ?_⟩) (by assumption) ?_
      rotate_left
      · (intro w hSw; (try dsimp only at hSw); go_simp; try with_reducible rfl)
      try simp only [Act.put, List.getElem_toArray, List.getElem_cons_zero, List.getElem_cons_succ, List.setIfInBounds_toArray, List.set_cons_zero, List.set_cons_succ]
      refine wpAnyH_done (by kernel_rfl) ?_ _
      replace M0 := Lib.hid (M0.out.below B1.out)
      replace HB := Lib.hid (below_then HB.out B1.out)
      have HZ1 : Hid (w.heap.size + 1 ≤ w1.heap.size) := Nat.le_trans HZ.out B1.out.size
      clear HC hHeld1 B1 HZ
      by_cases he : kw (k : Int) = x
      · have ET := HTT.out
        rw [he] at ET
        subst ET
        rw [show ((str x).toList == (str x).toList) = true from beq_self_eq_true _, Bool.not_true]
        have K7 : kind7 (k : Int) := kind7_nat hk1 hk7
        have HKX : Hid (kindW x = (k : Int)) := by show _ = _; rw [← he]; exact kindW_kw K7
        obtain ⟨kx, hkx⟩ : ∃ q : Int, q = (k : Int) := ⟨_, rfl⟩
        rw [← hkx] at HKX K7 ⊢
        obtain ⟨wc, hwc⟩ : ∃ y, y = w1.alloc (.cells #[.int .i64 kx, nilS, nilS] TRx) := ⟨_, rfl⟩
        have bc : Below w1.heap.size w1 wc := by rw [hwc]; exact below_alloc (Below.refl _ _) _
        have M1 : Hid (Blk wc w1.heap.size #[.int .i64 kx, nilS, nilS] TRx) := by rw [hwc]; exact blk_new w1 _ _
        have HZC : Hid (wc.heap.size = w1.heap.size + 1) := by rw [hwc]; show _ = _; simp
        replace M0 := Lib.hid (M0.out.below bc)
        replace HB := Lib.hid (below_then HB.out bc)
        have HST : Hid (StrAt wc g off1 ws) := (HT.out w HS.out).below HB.out
        have HWL : Hid (∀ y ∈ ws, y.length ≤ 4000) := fun y hy => HX.out y (List.mem_cons_of_mem _ hy)
        have HWC := Lib.hid hwc
        clear hwc hkx
        go_upto_region 8 with fail
        rw [← HWC.out]
        clear HWC
        have n0 : wc.cell? ⟨w1.heap.size, 0, none⟩ = some (.int .i64 kx) := by rw [M1.out.cell]; rfl
        have n1 : wc.cell? ⟨w1.heap.size, 1, none⟩ = some nilS := by rw [M1.out.cell]; rfl
        have n2 : wc.cell? ⟨w1.heap.size, 2, none⟩ = some nilS := by rw [M1.out.cell]; rfl
        have f1 : wc.frozen? ⟨w1.heap.size, 1, none⟩ = false := M1.out.free 1
        clear he hk hk1 hk8 hk7 i2 HJ bc
        by_cases k1 : kx = 1
        · subst k1
          clear K7
          cases ws with
          | nil =>
            have E : Hid (ro = none) := by show _ = _; rw [HRO.out]; exact readW_set0 HKX.out
            obtain rfl : n' = 0 := HN.out
            go_wp2_with ((with_reducible refine at_st 4 43 ?_); refine ev_store (o := ⟨none, .store _ (.tmp 4) _, _, _, _, _⟩) rfl rfl TRx (.tmp 4) (.tmp 43) rfl (w.heap.size) 0 rfl [.int .i64 0, nilS, nilS] rfl _ TRx M0.out (sizeRx' _ _ _) (by show 0 + 3 ≤ 3; omega) (three_one _ _ _ _ _ _ _) ?_; intro w5 hX5 hg5; have HX5 : Hid (Blk w5 (w.heap.size) ([.int .i64 0, nilS, nilS]).toArray TRx) := hX5; have HG5 := Lib.hid hg5; clear hX5 hg5)
            refine bodyPost_ret (results_row_tmp2' Tryd.results73 _ _ w.heap.size TRx _ (0, 0) _ rfl (HX5.out).eq Tryd.underlying36 rfl (by rw [sizeRx]; rfl) (.slice none 0 0) (.bool false) rfl rfl) rfl ?_
            exact readr_none (E.out) (HB.out.grown HG5.out HB.out.size (fun q hq => by injection hq with hq; omega))
          | cons y ws2 =>
            obtain ⟨n2', hn2'⟩ : ∃ n, n = ws2.length := ⟨_, rfl⟩
            obtain rfl : n' = n2' + 1 := by rw [HN.out, hn2']; rfl
            obtain ⟨off2, hsl2, htl2⟩ := slice_tail w g off1 y ws2 n2' hn2'
            have HN2 := Lib.hid hn2'
            have HT2 := Lib.hid htl2
            have c0 : wc.cell? ⟨g, off1, none⟩ = some (.string (str y)) := by
              have := HST.out.cell 0 y rfl
              rwa [Nat.add_zero] at this
            have hyl : y.length ≤ 4000 := HWL.out y (by simp)
            have e0 : ((n2' : Int) + 1 == 0) = false := by rw [beq_eq_false_iff_ne]; omega
            clear hn2' htl2
            go_wp2_with fail
            refine (iSetRead_c (str y) wc (by rw [str_size]; omega) (HP.out.below HB.out) (HM.out.below HB.out)).mono ?_
            rintro e w2 ⟨A2, c2, rfl, o2, b2⟩
            rw [str_data] at o2 ⊢
            replace M0 := Lib.hid (M0.out.below b2)
            replace M1 := Lib.hid (M1.out.below b2)
            have HB2 := Lib.hid (below_then HB.out b2)
            have HST2 := Lib.hid (HST.out.below b2)
            have HZ2 : Hid (wc.heap.size ≤ w2.heap.size) := b2.size
            clear n0 n1 n2 f1 c0 b2
            have n0 : w2.cell? ⟨w1.heap.size, 0, none⟩ = some (.int .i64 1) := by rw [M1.out.cell]; rfl
            have n1 : w2.cell? ⟨w1.heap.size, 1, none⟩ = some nilS := by rw [M1.out.cell]; rfl
            have n2 : w2.cell? ⟨w1.heap.size, 2, none⟩ = some nilS := by rw [M1.out.cell]; rfl
            have f1 : w2.frozen? ⟨w1.heap.size, 1, none⟩ = false := M1.out.free 1
            cases hs : readSet y with
            | none =>
              have E : Hid (ro = none) := by show _ = _; rw [HRO.out]; exact readW_setN HKX.out hs
              clear hs o2
              go_wp2_with ((with_reducible refine at_st 4 53 ?_); refine ev_store (o := ⟨none, .store _ (.tmp 4) _, _, _, _, _⟩) rfl rfl TRx (.tmp 4) (.tmp 53) rfl (w.heap.size) 0 rfl [.int .i64 0, nilS, nilS] rfl _ TRx M0.out (sizeRx' _ _ _) (by show 0 + 3 ≤ 3; omega) (three_one _ _ _ _ _ _ _) ?_; intro w5 hX5 hg5; have HX5 : Hid (Blk w5 (w.heap.size) ([.int .i64 0, nilS, nilS]).toArray TRx) := hX5; have HG5 := Lib.hid hg5; clear hX5 hg5)
              refine bodyPost_ret (results_row_tmp2' Tryd.results73 _ _ w.heap.size TRx _ (0, 0) _ rfl (HX5.out).eq Tryd.underlying36 rfl (by rw [sizeRx]; rfl) (.slice none 0 0) (.bool false) rfl rfl) rfl ?_
              exact readr_none (E.out) (HB2.out.grown HG5.out HB2.out.size (fun q hq => by injection hq with hq; omega))
            | some s =>
              have E : Hid (ro = some (.mk 1 s [], ws2)) := by show _ = _; rw [HRO.out]; exact readW_setS HKX.out hs
              rw [hs] at o2
              clear hs
              have O2 := Lib.hid o2
              have HU := Lib.hid (own_base o2.own)
              clear o2
              have HZG := HZ1.out
              obtain ⟨wS, hwS⟩ : ∃ y, y = (w2.setCell ⟨w1.heap.size, 1, none⟩ (.slice A2 s.length c2)).drew := ⟨_, rfl⟩
              have M0S : Hid (Blk wS w.heap.size #[.int .i64 0, nilS, nilS] TRx) := by rw [hwS]; exact (M0.out.far (by show w.heap.size ≠ w1.heap.size; omega) _).below (below_drew (Below.refl _ _))
              have M1S : Hid (Blk wS w1.heap.size #[.int .i64 1, .slice A2 s.length c2, nilS] TRx) := by rw [hwS]; have := (M1.out.set 1 (.slice A2 s.length c2)).below (below_drew (Below.refl _ _)); show Blk _ _ _ _; simpa using this
              have HBS : Hid (Below w.heap.size w wS) := by rw [hwS]; exact below_drew (below_set HB2.out (by show w.heap.size ≤ w1.heap.size; omega) _)
              have O3 : Hid (OwnSp wS wc.heap.size (.slice A2 s.length c2) s) := by rw [hwS]; exact (O2.out.stay (w1 := w2.setCell ⟨w1.heap.size, 1, none⟩ (.slice A2 s.length c2)) fun b hb => Below.heap_setCell _ _ _ _ (fun e => by have := HU.out b (mem_vblk.1 hb); have e' : b = w1.heap.size := e; have := HZC.out; omega)).below (below_drew (Below.refl _ _))
              have HSS : Hid (StrAt wS g off2 ws2) := (HT2.out w (HT.out w HS.out)).below HBS.out
              have HWS := Lib.hid hwS
              clear hwS
              go_wp2_with fail
              go_region
              go_wp2_with fail
              rw [← HWS.out]
              clear HWS n0 n1 n2 f1
              go_loopg [9, 12] 0 (fun n v9 v12 wx => v9 = .slice (some ⟨g, off2, none⟩) n2' n2' ∧ v12 = .int .i64 0 ∧ wx = wS)
              case atStart => exact ⟨rfl, rfl, rfl⟩
              case round =>
                obtain ⟨rfl, rfl, rfl⟩ := hrel
                have n0 : wr.cell? ⟨w1.heap.size, 0, none⟩ = some (.int .i64 1) := by rw [M1S.out.cell]; rfl
                have n1 : wr.cell? ⟨w1.heap.size, 1, none⟩ = some (.slice A2 s.length c2) := by rw [M1S.out.cell]; rfl
                have n2 : wr.cell? ⟨w1.heap.size, 2, none⟩ = some nilS := by rw [M1S.out.cell]; rfl
                go_wp2_with fail
                refine (iKids_c _ _).mono ?_
                rintro e wk ⟨rfl, rfl⟩
                rw [show kidsOf 1 = 0 from rfl]
                go_wp2_with ((with_reducible refine at_st 4 82 ?_); refine ev_store (o := ⟨none, .store _ (.tmp 4) _, _, _, _, _⟩) rfl rfl TRx (.tmp 4) (.tmp 82) rfl (w.heap.size) 0 rfl [.int .i64 1, .slice A2 s.length c2, nilS] rfl _ TRx M0S.out (sizeRx' _ _ _) (by show 0 + 3 ≤ 3; omega) (three_one _ _ _ _ _ _ _) ?_; intro w5 hX5 hg5; have HX5 : Hid (Blk w5 (w.heap.size) ([.int .i64 1, .slice A2 s.length c2, nilS]).toArray TRx) := hX5; have HG5 := Lib.hid hg5; clear hX5 hg5)
                refine bodyPost_ret (results_row_tmp2' Tryd.results73 _ _ w.heap.size TRx _ (0, 0) _ rfl HX5.out.eq Tryd.underlying36 rfl (by rw [sizeRx]; rfl) (.slice (some ⟨g, off2, none⟩) n2' n2') (.bool true) rfl rfl) rfl ?_
                have hb5 : Below w.heap.size w w5 := HBS.out.grown HG5.out HBS.out.size (fun q hq => by injection hq with hq; omega)
                exact readr_some (n := wc.heap.size) (r := .mk 1 s []) E.out rfl rfl HN2.out ((HT2.out w (HT.out w HS.out)).below hb5) (OwnT.setOnly' 1 O3.out) (fun b hb => (O3.out.own.lt b (mem_vblk.1 hb)).1) (by have := HZC.out; omega) HBS.out HG5.out
        · have k1' : (kx == 1) = false := by simp [k1]
          obtain ⟨n0', hn0, hn2⟩ : ∃ n : Nat, kidsOf kx = n ∧ n ≤ 2 := by
            rcases K7 with rfl | rfl | rfl | rfl | rfl | rfl | rfl
            · exact ⟨0, rfl, by omega⟩
            · exact ⟨0, rfl, by omega⟩
            · exact ⟨2, rfl, by omega⟩
            · exact ⟨2, rfl, by omega⟩
            · exact ⟨1, rfl, by omega⟩
            · exact ⟨2, rfl, by omega⟩
            · exact ⟨1, rfl, by omega⟩
          have k0 : kx ≠ 0 := by rcases K7 with h | h | h | h | h | h | h <;> omega
          have ER : Hid (ro = (kidsLoop (readW d) n0' ws []).map fun x => (.mk kx [] x.1, x.2)) := by
            show _ = _
            rw [HRO.out, readW_kids (by rw [HKX.out]; exact k0) (by rw [HKX.out]; exact k1), HKX.out, hn0]
            rfl
          have HN0 : Hid (kidsOf kx = n0') := hn0
          have hzc := HZC.out
          have hz1 := HZ1.out
          clear K7 k0 hn0
          obtain ⟨i1, hi, hz0, hza, hz2⟩ := info_parts infoRx
          go_wp2_with fail
          clear n0 n1 n2 f1
          go_loopg [9, 12] n0' (fun n v9 v12 wx => ∃ (i off2 : Nat) (ws2 : List (List UInt8)) (m : Nat) (ks : List Rex) (A2 : Option Addr) (c2 : Nat) (L : List KInfo), v12 = .int .i64 i ∧ v9 = .slice (some ⟨g, off2, none⟩) m m ∧ Hid (m = ws2.length) ∧ i + n = n0' ∧ ks.length = i ∧ Hid (StrAt w g off2 ws2) ∧ m ≤ 4000 ∧ Hid (∀ y ∈ ws2, y.length ≤ 4000) ∧
            Hid (kidsLoop (readW d) n0' ws [] = kidsLoop (readW d) n ws2 ks) ∧
            Hid (KApp wx wc.heap.size ks i (.slice A2 i c2) L) ∧ Hid (Blk wx w1.heap.size #[.int .i64 kx, nilS, .slice A2 i c2] TRx) ∧ Hid (Blk wx w.heap.size #[.int .i64 0, nilS, nilS] TRx) ∧ Hid (Below w.heap.size w wx) ∧ Hid (wc.heap.size ≤ wx.heap.size))
          case atStart => exact ⟨0, off1, ws, n', [], none, 0, [], rfl, rfl, HN, by omega, rfl, HT.out w HS.out, by omega, HWL, rfl, KApp.first _ _ _, M1, M0, HB, Nat.le_refl _⟩
          case round =>
            clear M0 M1 HB HST HWL
            obtain ⟨i, off2, ws2, m, ks, A2, c2, L, rfl, rfl, HM2, hin, hki, HST, hm4, HWL, HL, HX2, M1, M0, HB, HZ⟩ := hrel
            have n0 : wr.cell? ⟨w1.heap.size, 0, none⟩ = some (.int .i64 kx) := by rw [M1.out.cell]; rfl
            have n1 : wr.cell? ⟨w1.heap.size, 1, none⟩ = some nilS := by rw [M1.out.cell]; rfl
            have n2 : wr.cell? ⟨w1.heap.size, 2, none⟩ = some (.slice A2 i c2) := by rw [M1.out.cell]; rfl
            go_wp2_with fail
            refine (iKids_c _ _).mono ?_
            rintro e wk ⟨rfl, rfl⟩
            rw [HN0.out]
            have HKI := Lib.hid hki
            by_cases hpos : i < n0'
            · have hil : (i : Int) < (n0' : Int) := by omega
              obtain ⟨gn, rfl⟩ : ∃ gn, gk = gn + 1 := ⟨gk - 1, by omega⟩
              clear hki
              go_wp2_with fail
              have ihc : Calls Tryd.prog 73 #[.slice (some ⟨g, off2, none⟩) m m, .int .i64 (d : Nat)] wr fun e w' => ReadRPost wr.heap.size g (readW d ws2) e w' ∧ Below wr.heap.size wr w' := by
                rw [HM2.out]
                exact IH.out g off2 ws2 wr (HST.out.below HB.out) (by have := HM2.out; omega) HWL.out (HP.out.below HB.out) (HM.out.below HB.out)
              refine ihc.mono ?_
              rintro e w2 ⟨hp, b2⟩
              replace M0 := Lib.hid (M0.out.below b2)
              have M1' := Lib.hid (M1.out.below b2)
              have HB2 := Lib.hid (below_then HB.out b2)
              have HZ2 := Lib.hid (Nat.le_trans HZ.out b2.size)
              have B2 := Lib.hid b2
              clear n0 n1 n2 b2 ihc
              cases hr : readW d ws2 with
              | none =>
                rw [hr] at hp
                obtain ⟨k9, A9, m9, c9, K9, q9, ck9, rfl⟩ := hp
                have E : Hid (ro = none) := by show _ = _; rw [ER.out, HL.out, loop_none hr]; rfl
                clear hr
                obtain ⟨wD, hwD⟩ : ∃ y, y = w2.alloc (.cells #[.int .i64 k9, .slice A9 m9 c9, .slice K9 q9 ck9] TRx) := ⟨_, rfl⟩
                have bD : Below w2.heap.size w2 wD := by rw [hwD]; exact below_alloc (Below.refl _ _) _
                have M0D := Lib.hid (M0.out.below bD)
                have HBD := Lib.hid (below_then HB2.out bD)
                have HWD := Lib.hid hwD
                clear bD hwD
                go_upto_region 20 with fail
                rw [← HWD.out]
                clear HWD
                go_wp2_with ((with_reducible refine at_st 4 74 ?_); refine ev_store (o := ⟨none, .store _ (.tmp 4) _, _, _, _, _⟩) rfl rfl TRx (.tmp 4) (.tmp 74) rfl (w.heap.size) 0 rfl [.int .i64 0, nilS, nilS] rfl _ TRx M0D.out (sizeRx' _ _ _) (by show 0 + 3 ≤ 3; omega) (three_one _ _ _ _ _ _ _) ?_; intro w5 hX5 hg5; have HX5 : Hid (Blk w5 (w.heap.size) ([.int .i64 0, nilS, nilS]).toArray TRx) := hX5; have HG5 := Lib.hid hg5; clear hX5 hg5)
                refine bodyPost_ret (results_row_tmp2' Tryd.results73 _ _ w.heap.size TRx _ (0, 0) _ rfl (HX5.out).eq Tryd.underlying36 rfl (by rw [sizeRx]; rfl) (.slice none 0 0) (.bool false) rfl rfl) rfl ?_
                exact readr_none (E.out) (HBD.out.grown HG5.out HBD.out.size (fun q hq => by injection hq with hq; omega))
              | some res =>
                obtain ⟨r, rest⟩ := res
                rw [hr] at hp
                obtain ⟨A4, c4, K4, d4, fp, off3, rfl, hs3, ho, hnd, hf⟩ := hp
                have HL2 : Hid (kidsLoop (readW d) n0' ws [] = kidsLoop (readW d) gn rest (ks ++ [r])) := by show _ = _; rw [HL.out, loop_some hr]
                have hsuf : ∃ pre, ws2 = pre ++ rest := ⟨_, (readW_sound d _ _ _ hr).1⟩
                have hrl : rest.length ≤ m := by obtain ⟨pre, h⟩ := hsuf; have := HM2.out; rw [h, List.length_append] at this; omega
                have HWR : Hid (∀ y ∈ rest, y.length ≤ 4000) := fun y hy => by obtain ⟨pre, h⟩ := hsuf; exact HWL.out y (by rw [h]; simp [hy])
                obtain ⟨m3, hm3⟩ : ∃ m3, m3 = rest.length := ⟨_, rfl⟩
                rw [← hm3] at hrl ⊢
                have HM3 := Lib.hid hm3
                clear hr hsuf hm3
                obtain ⟨wD, hwD⟩ : ∃ y, y = w2.alloc (.cells #[.int .i64 r.kind, .slice A4 r.set.length c4, .slice K4 r.kids.length d4] TRx) := ⟨_, rfl⟩
                have bD : Below w2.heap.size w2 wD := by rw [hwD]; exact below_alloc (Below.refl _ _) _
                have mD : Blk wD w2.heap.size #[.int .i64 r.kind, .slice A4 r.set.length c4, .slice K4 r.kids.length d4] TRx := by rw [hwD]; exact blk_new w2 _ _
                have M0D := Lib.hid (M0.out.below bD)
                have M1D := Lib.hid (M1'.out.below bD)
                have HBD := Lib.hid (below_then HB2.out bD)
                have BD := Lib.hid (below_then B2.out bD)
                have HO := Lib.hid (ho.under bD)
                have HF := Lib.hid hf
                have HND := Lib.hid hnd
                have HS3 := Lib.hid (hs3.up HGW.out HB2.out)
                have hzD : wr.heap.size ≤ wD.heap.size := BD.out.size
                have hzd := Nat.le_trans HZ.out hzD
                have m2 : wD.cell? ⟨w1.heap.size, 2, none⟩ = some (.slice A2 i c2) := by rw [M1D.out.cell]; rfl
                have e0 : wD.cell? ⟨w2.heap.size, 0, none⟩ = some (.int .i64 r.kind) := by rw [mD.cell]; rfl
                have e1 : wD.cell? ⟨w2.heap.size, 1, none⟩ = some (.slice A4 r.set.length c4) := by rw [mD.cell]; rfl
                have e2 : wD.cell? ⟨w2.heap.size, 2, none⟩ = some (.slice K4 r.kids.length d4) := by rw [mD.cell]; rfl
                have HWD := Lib.hid hwD
                have HOW := Lib.hid (own_below HX2.out.own BD.out)
                have HVK : Hid (∀ b, b ∈ vblk (.slice A2 i c2) → wc.heap.size ≤ b) := fun b hb => HX2.out.lo b (by simp [hb])
                have HBB : Hid (∀ q, (Value.slice A2 i c2).ownBlock = some q → q ≠ w1.heap.size) := fun q hq e => by have := HVK.out q (mem_vblk.2 hq); omega
                have HBB0 : Hid (∀ q, (Value.slice A2 i c2).ownBlock = some q → q ≠ w.heap.size) := fun q hq e => by have := HVK.out q (mem_vblk.2 hq); omega
                clear bD mD ho hf hnd hs3 hwD
                go_upto_region 20 with fail
                rw [← HWD.out]
                clear HWD
                go_wp2_with (at_builtin; refine wpList_append_row (by rfl) (.tmp 76) (.tmp 78) 34 (by rfl) wc.heap.size TRx i1 (.agg #[.int .i64 0, nilS, nilS]) 3 56 Tryd.underlying34 hi hz0 hza hz2 rfl (by decide) (.slice A2 i c2) i (kcells (ks.take i) L) (by rfl) (own_below HOW.out (below_alloc (Below.refl _ _) _)) (some ⟨wD.heap.size, 0, none⟩) 1 1 [.int .i64 r.kind, .slice A4 r.set.length c4, .slice K4 r.kids.length d4] (by rfl) (.inr ⟨⟨wD.heap.size, 0, none⟩, rfl, Nat.zero_le _, new_cells wD [.int .i64 r.kind, .slice A4 r.set.length c4, .slice K4 r.kids.length d4] TRx⟩) rfl (three_one _ _ _ _ _ _ _) (by unfold maxLen; omega) (by omega) (by simp; omega) _ rfl (i + 1) rfl ?_; intro A5 c5 wE hown hgrow hat5; have HE := Lib.hid hown; have HG := Lib.hid hgrow; have HAT := Lib.hid hat5; have ZB := ((M1D.out).alloc (.cells #[.int .i64 r.kind, .slice A4 r.set.length c4, .slice K4 r.kids.length d4] TRx)).grown hgrow HBB.out; have q2 := (ZB.cell 2).trans rfl; have f2 := ZB.free 2; have HZB := Lib.hid ZB; clear ZB hown hgrow hat5)
                go_roundg gn
                case measure => omega
                case rel =>
                  have hkl := HKI.out
                  refine ⟨i + 1, off3, rest, m3, ks ++ [r], A5, c5, L ++ [⟨fp, .slice A4 r.set.length c4, .slice K4 r.kids.length d4⟩], by go_num, rfl, HM3, by omega, by simp [hkl], HS3, by omega, HWR, HL2, ?_, Lib.hid (by simpa using HZB.out.set 2 (.slice A5 (i + 1) c5)), ?_, ?_, ?_⟩
                  · subst hkl
                    exact (HX2.out.more r).snoc (r := r) (by simp) BD.out HO.out HF.out HND.out (by have h9 := HE.out; rw [List.take_length] at h9; rw [List.take_left]; exact h9) HG.out HAT.out (by omega) HZ.out
                  · exact Blk.far ((M0D.out.alloc _).grown HG.out HBB0.out) (by show w.heap.size ≠ w1.heap.size; omega) _
                  · exact below_set ((below_alloc HBD.out _).grown HG.out (by simp; omega) fun q hq => by have := HVK.out q (mem_vblk.2 hq); omega) (by show w.heap.size ≤ w1.heap.size; omega) _
                  · show _ ≤ _; rw [World.size_setCell]; exact Nat.le_trans (Nat.le_trans hzd (by simp)) HG.out.size
            · obtain rfl : gk = 0 := by omega
              have hil : ¬ (i : Int) < (n0' : Int) := by omega
              have HOK := (show KApp wr wc.heap.size ks ks.length (.slice A2 i c2) L by rw [hki]; exact HX2.out).done rfl (by unfold maxN; omega)
              have HOT : Hid (OwnT wr (vblk (.slice A2 i c2) ++ fps L) (.mk kx [] ks) nilS (.slice A2 i c2)) := by
                have := OwnT.of (k := kx) (OwnSp.nil wr 0) HOK (by rw [vblk_nil]; exact HOK.nd)
                rw [vblk_nil] at this
                exact this
              have HFK : Hid (∀ b, b ∈ vblk (.slice A2 i c2) ++ fps L → wc.heap.size ≤ b) := fun b hb => HX2.out.lo b hb
              have E : Hid (ro = some (.mk kx [] ks, ws2)) := by show _ = _; rw [ER.out, HL.out, kidsLoop]; rfl
              clear HX2 HOK hki hin hn2 hpos
              go_wp2_with ((with_reducible refine at_st 4 82 ?_); refine ev_store (o := ⟨none, .store _ (.tmp 4) _, _, _, _, _⟩) rfl rfl TRx (.tmp 4) (.tmp 82) rfl (w.heap.size) 0 rfl [.int .i64 kx, nilS, .slice A2 i c2] rfl _ TRx M0.out (sizeRx' _ _ _) (by show 0 + 3 ≤ 3; omega) (three_one _ _ _ _ _ _ _) ?_; intro w5 hX5 hg5; have HX5 : Hid (Blk w5 (w.heap.size) ([.int .i64 kx, nilS, .slice A2 i c2]).toArray TRx) := hX5; have HG5 := Lib.hid hg5; clear hX5 hg5)
              refine bodyPost_ret (results_row_tmp2' Tryd.results73 _ _ w.heap.size TRx _ (0, 0) _ rfl HX5.out.eq Tryd.underlying36 rfl (by rw [sizeRx]; rfl) (.slice (some ⟨g, off2, none⟩) m m) (.bool true) rfl rfl) rfl ?_
              have hb5 : Below w.heap.size w w5 := HB.out.grown HG5.out HB.out.size (fun q hq => by injection hq with hq; omega)
              exact readr_some (n := wc.heap.size) (r := .mk kx [] ks) E.out rfl HKI.out.symm HM2.out (HST.out.below hb5) HOT.out HFK.out (by omega) HB.out HG5.out
      · have hne : T ≠ str x := fun e => he (str_inj (by rw [← HTT.out, e]))
        have hne2 : T.toList ≠ (str x).toList := fun e => hne (ByteArray.ext (Array.toList_inj.1 (by rw [← ByteArray.toList_eq, ← ByteArray.toList_eq]; exact e)))
        have q1 : (T.toList == (str x).toList) = false := by rw [beq_eq_false_iff_ne]; exact hne2
        rw [q1, Bool.not_false]
        have HJ2 : Hid (∀ j : Nat, 1 ≤ j → j < k + 1 → kw (j : Int) ≠ x) := fun j h1 h2 => by
          by_cases e : j = k
          · rw [e]; exact he
          · exact HJ.out j h1 (by omega)
        clear he HJ
        go_wp2_with fail
        go_roundg (gk - 1)
        case measure => omega
        case rel => exact ⟨k + 1, by omega, by omega, by omega, by go_num, HJ2, M0, HB, HZ1⟩
    · have hk8' : k = 8 := by omega
      have i2 : ¬ (k : Int) ≤ 7 := by omega
      have E : Hid (ro = none) := by
        show _ = _
        rw [HRO.out]
        rcases kindW_cases x with ⟨h, _⟩ | ⟨h, h2⟩
        · exact readW_bad h
        · exfalso
          have h3 := HJ.out (kindW x).toNat (by rcases h with h | h | h | h | h | h | h <;> omega) (by rcases h with h | h | h | h | h | h | h <;> omega)
          rw [show (((kindW x).toNat : Nat) : Int) = kindW x by rcases h with h | h | h | h | h | h | h <;> omega] at h3
          exact h3 h2.symm
      clear hk hk8 hk8' hk1 hk7 HJ
      go_wp2_with ((with_reducible refine at_st 4 84 ?_); refine ev_store (o := ⟨none, .store _ (.tmp 4) _, _, _, _, _⟩) rfl rfl TRx (.tmp 4) (.tmp 84) rfl (w.heap.size) 0 rfl [.int .i64 0, nilS, nilS] rfl _ TRx M0.out (sizeRx' _ _ _) (by show 0 + 3 ≤ 3; omega) (three_one _ _ _ _ _ _ _) ?_; intro w5 hX5 hg5; have HX5 : Hid (Blk w5 (w.heap.size) ([.int .i64 0, nilS, nilS]).toArray TRx) := hX5; have HG5 := Lib.hid hg5; clear hX5 hg5)
      refine bodyPost_ret (results_row_tmp2' Tryd.results73 _ _ w.heap.size TRx _ (0, 0) _ rfl (HX5.out).eq Tryd.underlying36 rfl (by rw [sizeRx]; rfl) (.slice none 0 0) (.bool false) rfl rfl) rfl ?_
      exact readr_none (E.out) (HB.out.grown HG5.out HB.out.size (fun q hq => by injection hq with hq; omega))

theorem iRead_c : ∀ d : Nat, d ≤ 9 → ReadROk d
  | 0, _ => fun g off ws w _ _ _ _ _ => iRead_bad 0 g off ws w (.inl rfl)
  | d + 1, hd => fun g off ws w hS hW hx hp hm => by
    cases ws with
    | nil => exact iRead_bad (d + 1) g off [] w (.inr rfl)
    | cons x ws => exact iRead_step d g off x ws w hS (by simpa using hW) hx hp hm (by omega) (iRead_c d (by omega))

end Go.Proofs.YtlchipjckgaclaaDoor
