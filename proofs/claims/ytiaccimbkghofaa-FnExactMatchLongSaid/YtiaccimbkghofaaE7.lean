/- MatchWord, MatchIs, MatchLong of the program. -/
import Derived.Test.YtiaccimbkghofaaE4
import Derived.Test.YtiaccimbkghofaaE6
namespace Go.Proofs.Ytiaccimbkghofaa
set_option linter.unusedSimpArgs false
set_option linter.unusedVariables false
open Go.RowKit

theorem iWord_c (s : ByteArray) (w : World) :
    Calls Try.prog 77 #[.string s] w fun e w' => e = .returned (.bool (decide ((s.size : Int) ≤ 12))) ∧ w = w' := by
  go_enter Try.func77, Try.ntmps77
  go_wp2
  go_ret
  exact ⟨rfl, rfl⟩
abbrev TRow : Nat := 66
theorem run_index_pc (f : Nat → Nat → Bool) (w : World) : (Instr.index TPc (.agg (pcells f).toArray) (.int .i64 0)).run Try.prog w = .ok (.agg ((pcells f).take 13).toArray) w := by
  have hu : Try.prog.underlying TPc = some (.array 13 TRow) := Try.underlying68
  have hu' : Try.prog.underlying TRow = some (.array 13 4) := Try.underlying66
  obtain ⟨i, hi, hz⟩ := Option.map_eq_some_iff.1 (show (Try.prog.info? TRow).map (·.size) = some 13 by kernel_rfl)
  have hl : (pcells f).length = 169 := pcells_length f
  simp [Instr.index, asIntOf, run_underlying hu, sizeOf, typeInfo, hi, hz, part, isAgg, run_underlying hu']
theorem run_index_pr (f : Nat → Nat → Bool) (k : Nat) (hk : k < 13) (w : World) : (Instr.index TRow (.agg ((pcells f).take 13).toArray) (.int .i64 k)).run Try.prog w = .ok (.bool (f 0 k)) w := by
  have hu : Try.prog.underlying TRow = some (.array 13 4) := Try.underlying66
  obtain ⟨i, hi, hz⟩ := Option.map_eq_some_iff.1 (show (Try.prog.info? 4).map (·.size) = some 1 by kernel_rfl)
  have e := pcells_get f (i := 0) (j := k) (by omega) hk
  rw [Nat.zero_mul, Nat.zero_add] at e
  simp [Instr.index, asIntOf, run_underlying hu, hk, sizeOf, typeInfo, hi, hz, part, isAgg, run_underlying Try.underlying4, e]
set_option maxHeartbeats 1000000 in
theorem iMatchIs_c (r : Rex) (t : ByteArray) (v1 v2 : Value) (w : World) (lo : Nat) (h : RexV w lo r (.int .i64 r.kind) v1 v2) (hsz : r.size ≤ 1048576) :
    Calls Try.prog 37 #[.agg #[.int .i64 r.kind, v1, v2], .string t] w fun e w' => e = .returned (.bool (matchIs r t.data.toList)) ∧ Below w.heap.size w w' := by
  obtain ⟨A, c, K, ck, _, rfl, rfl, _, _⟩ := h.parts
  obtain ⟨wa, hwa⟩ : ∃ x, x = w.alloc (.cells #[.int .i64 r.kind, .slice A r.set.length c, .slice K r.kids.length ck] 31) := ⟨_, rfl⟩
  have hb : Below w.heap.size w wa := by rw [hwa]; exact below_alloc (Below.refl _ _) _
  have m0 : Blk wa w.heap.size #[.int .i64 r.kind, .slice A r.set.length c, .slice K r.kids.length ck] 31 := by rw [hwa]; exact blk_new w _ _
  have HV := Lib.hid (h.under hb)
  have HB := Lib.hid hb
  have M0 := Lib.hid m0
  clear hb m0 h
  replace hwa := hwa.symm
  have n0 : wa.cell? ⟨w.heap.size, 0, none⟩ = some (.int .i64 r.kind) := by rw [M0.out.cell]; rfl
  have n0' : wa.cell? ⟨w.heap.size, 1, none⟩ = some (.slice A r.set.length c) := by rw [M0.out.cell]; rfl
  have n0'' : wa.cell? ⟨w.heap.size, 2, none⟩ = some (.slice K r.kids.length ck) := by rw [M0.out.cell]; rfl
  have HT := Lib.hid (tl_len t)
  go_enter Try.func37, Try.ntmps37
  go_wp2_with fail
  clear hwa
  refine (iRexOk_c _ _ _ _ _ HV.out hsz).mono ?_
  rintro e w1 ⟨rfl, b1⟩
  have H1 := Lib.hid b1
  replace M0 := Lib.hid (M0.out.below b1)
  clear n0 n0' n0'' b1
  have n0 : w1.cell? ⟨w.heap.size, 0, none⟩ = some (.int .i64 r.kind) := by rw [M0.out.cell]; rfl
  have n0' : w1.cell? ⟨w.heap.size, 1, none⟩ = some (.slice A r.set.length c) := by rw [M0.out.cell]; rfl
  have n0'' : w1.cell? ⟨w.heap.size, 2, none⟩ = some (.slice K r.kids.length ck) := by rw [M0.out.cell]; rfl
  by_cases hf : rexOk r = true
  · have HF := Lib.hid hf
    rw [hf]
    clear hf
    go_wp2_with fail
    refine (iWord_c _ _).mono ?_
    rintro e w1 ⟨rfl, rfl⟩
    by_cases ht : t.size ≤ 12
    · have HX := Lib.hid ht
      rw [decide_eq_true (show (t.size : Int) ≤ 12 by omega)]
      clear ht
      go_wp2_with fail
      refine (piecesOf_c r 8 t _ _ _ _ (rexOk_formed HF.out) (by have := HX.out; omega) (HV.out.under H1.out)).mono ?_
      rintro e w2 ⟨rfl, b2⟩
      clear n0 n0' n0''
      have x1 := fun wx => run_index_pc (pcF r t.data.toList) wx
      have x2 := fun wx => run_index_pr (pcF r t.data.toList) t.size (by have := HX.out; omega) wx
      go_wp2
      go_ret
      exact ⟨ret_bool (by rw [matchIs_of HF.out (by rw [HT.out]; exact HX.out), pcF_eq _ _ (Nat.zero_le _) (by rw [HT.out]; omega)]; unfold pc sub; rw [List.drop_zero, List.take_of_length_le (by rw [HT.out]; omega)]), below_then HB.out (below_then H1.out b2)⟩
    · have HX := Lib.hid ht
      rw [decide_eq_false (show ¬ (t.size : Int) ≤ 12 by omega)]
      clear ht
      go_wp2
      go_ret
      exact ⟨ret_bool (matchIs_no2 (by rw [HT.out]; exact HX.out)).symm, below_then HB.out H1.out⟩
  · have HF : Hid (rexOk r = false) := by show _ = _; simpa using hf
    rw [HF.out]
    clear hf
    go_wp2
    go_ret
    exact ⟨ret_bool (matchIs_no1 HF.out).symm, below_then HB.out H1.out⟩

theorem sub_eq (t : Txt) (q m : Nat) : sub t q (q + m) = (t.drop q).take m := by unfold sub; rw [List.drop_take, Nat.add_sub_cancel_left]
set_option maxRecDepth 100000 in
set_option maxHeartbeats 1000000 in
theorem iMatchLong_c (r : Rex) (t : ByteArray) (n : Int) (v1 v2 : Value) (w : World) (lo : Nat) (h : RexV w lo r (.int .i64 r.kind) v1 v2) (hsz : r.size ≤ 1048576) :
    Calls Try.prog 39 #[.agg #[.int .i64 r.kind, v1, v2], .string t, .int .i64 n] w fun e w' => e = .returned (.int .i64 (matchLong r t.data.toList n)) ∧ Below w.heap.size w w' := by
  obtain ⟨A, c, K, ck, _, rfl, rfl, _, _⟩ := h.parts
  obtain ⟨wa, hwa⟩ : ∃ x, x = w.alloc (.cells #[.int .i64 r.kind, .slice A r.set.length c, .slice K r.kids.length ck] 31) := ⟨_, rfl⟩
  have hb : Below w.heap.size w wa := by rw [hwa]; exact below_alloc (Below.refl _ _) _
  have m0 : Blk wa w.heap.size #[.int .i64 r.kind, .slice A r.set.length c, .slice K r.kids.length ck] 31 := by rw [hwa]; exact blk_new w _ _
  have HV := Lib.hid (h.under hb)
  have HB := Lib.hid hb
  have M0 := Lib.hid m0
  clear hb m0 h
  replace hwa := hwa.symm
  have n0 : wa.cell? ⟨w.heap.size, 0, none⟩ = some (.int .i64 r.kind) := by rw [M0.out.cell]; rfl
  have n0' : wa.cell? ⟨w.heap.size, 1, none⟩ = some (.slice A r.set.length c) := by rw [M0.out.cell]; rfl
  have n0'' : wa.cell? ⟨w.heap.size, 2, none⟩ = some (.slice K r.kids.length ck) := by rw [M0.out.cell]; rfl
  have HT := Lib.hid (tl_len t)
  go_enter Try.func39, Try.ntmps39
  go_wp2_with fail
  clear hwa
  refine (iRexOk_c _ _ _ _ _ HV.out hsz).mono ?_
  rintro e w1 ⟨rfl, b1⟩
  have H1 := Lib.hid b1
  replace M0 := Lib.hid (M0.out.below b1)
  clear n0 n0' n0'' b1
  have n0 : w1.cell? ⟨w.heap.size, 0, none⟩ = some (.int .i64 r.kind) := by rw [M0.out.cell]; rfl
  have n0' : w1.cell? ⟨w.heap.size, 1, none⟩ = some (.slice A r.set.length c) := by rw [M0.out.cell]; rfl
  have n0'' : w1.cell? ⟨w.heap.size, 2, none⟩ = some (.slice K r.kids.length ck) := by rw [M0.out.cell]; rfl
  by_cases hf : rexOk r = true
  · have HF := Lib.hid hf
    rw [hf]
    clear hf
    go_wp2_with fail
    refine (iWord_c _ _).mono ?_
    rintro e w1 ⟨rfl, rfl⟩
    by_cases ht : t.size ≤ 12
    · have HX := Lib.hid ht
      rw [decide_eq_true (show (t.size : Int) ≤ 12 by omega)]
      go_wp2_with fail
      refine (in_c _ _ _ _).mono ?_
      rintro e w1 ⟨rfl, rfl⟩
      by_cases hn : 0 ≤ n ∧ n ≤ t.size
      · obtain ⟨hn0, hn1⟩ := hn
        rw [decide_eq_true hn0, decide_eq_true hn1]
        obtain ⟨q, rfl⟩ := Int.eq_ofNat_of_zero_le hn0
        have hq : q ≤ t.size := by omega
        have EM : Hid (matchLong r t.data.toList q = longGo (fun m => lang r ((t.data.toList.drop q).take m)) (t.size - q)) := by
          show _ = _
          rw [matchLong, if_pos ⟨HF.out, by rw [HT.out]; exact HX.out, hn0, by rw [HT.out]; exact hn1⟩, HT.out]
          rfl
        clear hn0 hn1
        go_wp2_with fail
        refine (piecesOf_c r 8 t _ _ _ _ (rexOk_formed HF.out) (by have := HX.out; omega) (HV.out.under H1.out)).mono ?_
        rintro e w2 ⟨rfl, b2⟩
        clear n0 n0' n0''
        have B2 := Lib.hid b2
        clear b2
        go_wp2_with (first
          | (refine ev_store rfl rfl TPc (.tmp 7) (.tmp 26) rfl w2.heap.size 0 rfl (pcells (pcF r t.data.toList)) rfl _ TPc (blk_new w2 _ _) (sizePc' _) (by rw [zc68, List.size_toArray, pcells_length, pcells_length]; omega) (pcells_one _) ?_; intro w5 hX5 hg5; have HX5 := Lib.hid hX5; have HG5 := Lib.hid hg5; clear hX5 hg5))
        have P5 : Hid (PRow w5 w2.heap.size 0 (pcF r t.data.toList)) := by
          have h5 := HX5.out
          rw [List.take_zero, List.nil_append, List.drop_of_length_le (by rw [zc68]; simp [pcells_length]), List.append_nil] at h5
          exact h5.prow
        have B5 : Hid (Below w1.heap.size w1 w5) := (below_then B2.out (below_alloc (Below.refl _ _) _)).grown HG5.out (by simp; have := B2.out.size; omega) (by rintro k' e; injection e with e; have := B2.out.size; omega)
        clear HX5 HG5 B2
        have hts : t.size ≤ 1000 := by omega
        go_loopg [8] (t.size - q + 1) (fun m x wr => ∃ k : Int, x = .int .i64 k ∧ Hid (k = (m : Int) - 1) ∧ Hid (q + m ≤ t.size + 1) ∧ Hid ((if m = 0 then -1 else longGo (fun m => lang r ((t.data.toList.drop q).take m)) (m - 1)) = matchLong r t.data.toList q) ∧ wr = w5)
        case atStart =>
          refine ⟨(t.size : Int) - q, rfl, ?_, ?_, ?_, rfl⟩
          · show _ = _; omega
          · show _ ≤ _; omega
          · show _ = _
            rw [EM.out, if_neg (by omega), Nat.add_sub_cancel]
        case round =>
          obtain ⟨k, rfl, hk, hm, HL, rfl⟩ := hrel
          by_cases h0 : gk = 0
          · subst h0
            have hlt : k < 0 := by have := hk.out; omega
            go_wp2
            go_ret
            exact ⟨ret_int (by rw [← HL.out]; rfl), below_then HB.out (below_then H1.out B5.out)⟩
          · obtain ⟨m, rfl⟩ : ∃ m, gk = m + 1 := ⟨gk - 1, by omega⟩
            obtain rfl : k = (m : Int) := by have := hk.out; omega
            have hmm : q + m ≤ t.size := by have := hm.out; omega
            have EX : Hid (pcF r t.data.toList q (q + m) = lang r ((t.data.toList.drop q).take m)) := by
              show _ = _
              rw [pcF_eq _ _ (by omega) (by rw [HT.out]; omega)]
              unfold pc
              rw [sub_eq]
            have c5 := P5.out.cell (i := q) (j := q + m) (by omega) (by omega)
            rw [EX.out] at c5
            by_cases hg : lang r ((t.data.toList.drop q).take m) = true
            · have EL : Hid (matchLong r t.data.toList q = m) := by show _ = _; rw [← HL.out, if_neg (by omega), Nat.add_sub_cancel]; exact longGo_yes hg
              rw [hg] at c5
              clear hg
              go_wp2
              go_ret
              exact ⟨ret_int EL.out.symm, below_then HB.out (below_then H1.out B5.out)⟩
            · have EL := Lib.hid (longGo_no (p := fun m => lang r ((t.data.toList.drop q).take m)) (n := m) (by simpa using hg))
              rw [show lang r ((t.data.toList.drop q).take m) = false by simpa using hg] at c5
              clear hg
              go_wp2
              go_roundg m
              case rel =>
                refine ⟨(m : Int) - 1, by go_num, ?_, ?_, ?_, rfl⟩
                · show _ = _; omega
                · show _ ≤ _; omega
                · show _ = _
                  rw [← EL.out]
                  have := HL.out
                  rw [if_neg (by omega), Nat.add_sub_cancel] at this
                  exact this
              case measure => omega
      · have HN : Hid (matchLong r t.data.toList n = -1) := matchLong_no (fun h => hn ⟨h.2.2.1, by have := h.2.2.2; rw [HT.out] at this; exact this⟩)
        rw [show (decide (0 ≤ n) && decide (n ≤ (t.size : Int))) = false by simp only [Bool.and_eq_false_iff, decide_eq_false_iff_not]; omega]
        clear hn
        go_wp2
        go_ret
        exact ⟨ret_int HN.out.symm, below_then HB.out H1.out⟩
    · have HX := Lib.hid ht
      rw [decide_eq_false (show ¬ (t.size : Int) ≤ 12 by omega)]
      clear ht
      go_wp2
      go_ret
      exact ⟨ret_int (matchLong_no (fun h => HX.out (by rw [← HT.out]; exact h.2.1))).symm, below_then HB.out H1.out⟩
  · have HF : Hid (rexOk r = false) := by show _ = _; simpa using hf
    rw [HF.out]
    clear hf
    go_wp2
    go_ret
    exact ⟨ret_int (matchLong_no (fun h => by rw [HF.out] at h; exact absurd h.1 (by simp))).symm, below_then HB.out H1.out⟩

end Go.Proofs.Ytiaccimbkghofaa
