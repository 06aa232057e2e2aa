/- MatchWord, MatchIs, MatchLong of the reference. -/
import Derived.Test.YtiaccimbkghofaaE3
import Derived.Test.YtiaccimbkghofaaT11
namespace Go.Proofs.Ytiaccimbkghofaa
set_option linter.unusedSimpArgs false
set_option linter.unusedVariables false
open Go.RowKit

theorem sWord_c (s : ByteArray) (w : World) :
    Calls Try.prog 75 #[.string s] w fun e w' => e = .returned (.bool (decide ((s.size : Int) ≤ 12))) ∧ w = w' := by
  go_enter Try.func75, Try.ntmps75
  go_wp2
  go_ret
  exact ⟨rfl, rfl⟩
def matchIs (r : Rex) (t : Txt) : Bool := rexOk r && (decide (t.length ≤ 12) && lang r t)
theorem matchIs_of {r : Rex} {t : Txt} (h : rexOk r = true) (ht : t.length ≤ 12) : matchIs r t = lang r t := by rw [matchIs, h, decide_eq_true ht]; rfl
theorem matchIs_no1 {r : Rex} {t : Txt} (h : rexOk r = false) : matchIs r t = false := by rw [matchIs, h]; rfl
theorem matchIs_no2 {r : Rex} {t : Txt} (ht : ¬ t.length ≤ 12) : matchIs r t = false := by rw [matchIs, decide_eq_false ht]; simp
/-- the longest of n bytes at most -/
def longGo (p : Nat → Bool) : Nat → Int
  | 0 => if p 0 = true then 0 else -1
  | n + 1 => if p (n + 1) = true then ((n + 1 : Nat) : Int) else longGo p n
def matchLong (r : Rex) (t : Txt) (at_ : Int) : Int :=
  if rexOk r = true ∧ t.length ≤ 12 ∧ 0 ≤ at_ ∧ at_ ≤ t.length then longGo (fun m => lang r ((t.drop at_.toNat).take m)) (t.length - at_.toNat) else -1

set_option maxHeartbeats 1000000 in
theorem sMatchIs_c (r : Rex) (t : ByteArray) (v1 v2 : Value) (w : World) (lo : Nat) (h : RexV w lo r (.int .i64 r.kind) v1 v2) (hsz : r.size ≤ 1048576) :
    Calls Try.prog 36 #[.agg #[.int .i64 r.kind, v1, v2], .string t] w fun e w' => e = .returned (.bool (matchIs r t.data.toList)) ∧ Below w.heap.size w w' := by
  obtain ⟨A, c, K, ck, _, rfl, rfl, _, _⟩ := h.parts
  obtain ⟨wa, hwa⟩ : ∃ x, x = w.alloc (.cells #[.int .i64 r.kind, .slice A r.set.length c, .slice K r.kids.length ck] 31) := ⟨_, rfl⟩
  have hb : Below w.heap.size w wa := by rw [hwa]; exact below_alloc (Below.refl _ _) _
  have m0 : Blk wa w.heap.size #[.int .i64 r.kind, .slice A r.set.length c, .slice K r.kids.length ck] 31 := by rw [hwa]; exact blk_new w _ _
  have HV := Lib.hid (h.under hb)
  have HB := Lib.hid hb
  have M0 := Lib.hid m0
  clear hb m0 h
  replace hwa := hwa.symm
  have n0 : wa.cell? ⟨w.heap.size, 0, none⟩ = some (.int .i64 r.kind) := by rw [M0.out.cell]; rfl
  have n0' : wa.cell? ⟨w.heap.size, 1, none⟩ = some (.slice A r.set.length c) := by rw [M0.out.cell]; rfl
  have n0'' : wa.cell? ⟨w.heap.size, 2, none⟩ = some (.slice K r.kids.length ck) := by rw [M0.out.cell]; rfl
  have HT := Lib.hid (tl_len t)
  go_enter Try.func36, Try.ntmps36
  go_wp2_with fail
  clear hwa
  refine (sRexOk_c _ _ _ _ _ HV.out hsz).mono ?_
  rintro e w1 ⟨rfl, b1⟩
  have H1 := Lib.hid b1
  replace M0 := Lib.hid (M0.out.below b1)
  clear n0 n0' n0'' b1
  have n0 : w1.cell? ⟨w.heap.size, 0, none⟩ = some (.int .i64 r.kind) := by rw [M0.out.cell]; rfl
  have n0' : w1.cell? ⟨w.heap.size, 1, none⟩ = some (.slice A r.set.length c) := by rw [M0.out.cell]; rfl
  have n0'' : w1.cell? ⟨w.heap.size, 2, none⟩ = some (.slice K r.kids.length ck) := by rw [M0.out.cell]; rfl
  by_cases hf : rexOk r = true
  · have HF := Lib.hid hf
    rw [hf]
    clear hf
    go_wp2_with fail
    refine (sWord_c _ _).mono ?_
    rintro e w1 ⟨rfl, rfl⟩
    by_cases ht : t.size ≤ 12
    · have HX := Lib.hid ht
      rw [decide_eq_true (show (t.size : Int) ≤ 12 by omega)]
      clear ht
      go_wp2_with fail
      refine (l3Is_c r 8 t _ _ _ _ (rexOk_formed HF.out) (by have := HX.out; omega) (HV.out.under H1.out)).mono ?_
      rintro e w2 ⟨rfl, b2⟩
      clear n0 n0' n0''
      go_wp2
      go_ret
      exact ⟨ret_bool (matchIs_of HF.out (by rw [HT.out]; exact HX.out)).symm, below_then HB.out (below_then H1.out b2)⟩
    · have HX := Lib.hid ht
      rw [decide_eq_false (show ¬ (t.size : Int) ≤ 12 by omega)]
      clear ht
      go_wp2
      go_ret
      exact ⟨ret_bool (matchIs_no2 (by rw [HT.out]; exact HX.out)).symm, below_then HB.out H1.out⟩
  · have HF : Hid (rexOk r = false) := by show _ = _; simpa using hf
    rw [HF.out]
    clear hf
    go_wp2
    go_ret
    exact ⟨ret_bool (matchIs_no1 HF.out).symm, below_then HB.out H1.out⟩

theorem matchLong_no {r : Rex} {t : Txt} {n : Int} (h : ¬ (rexOk r = true ∧ t.length ≤ 12 ∧ 0 ≤ n ∧ n ≤ t.length)) : matchLong r t n = -1 := by rw [matchLong, if_neg h]
theorem longGo_no {p : Nat → Bool} {n : Nat} (h : p n = false) : longGo p n = if n = 0 then -1 else longGo p (n - 1) := by
  cases n with
  | zero => rw [longGo, h]; rfl
  | succ n => rw [longGo, h]; simp
theorem longGo_yes {p : Nat → Bool} {n : Nat} (h : p n = true) : longGo p n = n := by
  cases n with
  | zero => rw [longGo, if_pos h]; rfl
  | succ n => rw [longGo, if_pos h]
set_option maxRecDepth 100000 in
set_option maxHeartbeats 1000000 in
theorem sMatchLong_c (r : Rex) (t : ByteArray) (n : Int) (v1 v2 : Value) (w : World) (lo : Nat) (h : RexV w lo r (.int .i64 r.kind) v1 v2) (hsz : r.size ≤ 1048576) :
    Calls Try.prog 38 #[.agg #[.int .i64 r.kind, v1, v2], .string t, .int .i64 n] w fun e w' => e = .returned (.int .i64 (matchLong r t.data.toList n)) ∧ Below w.heap.size w w' := by
  obtain ⟨A, c, K, ck, _, rfl, rfl, _, _⟩ := h.parts
  obtain ⟨wa, hwa⟩ : ∃ x, x = w.alloc (.cells #[.int .i64 r.kind, .slice A r.set.length c, .slice K r.kids.length ck] 31) := ⟨_, rfl⟩
  have hb : Below w.heap.size w wa := by rw [hwa]; exact below_alloc (Below.refl _ _) _
  have m0 : Blk wa w.heap.size #[.int .i64 r.kind, .slice A r.set.length c, .slice K r.kids.length ck] 31 := by rw [hwa]; exact blk_new w _ _
  have HV := Lib.hid (h.under hb)
  have HB := Lib.hid hb
  have M0 := Lib.hid m0
  clear hb m0 h
  replace hwa := hwa.symm
  have n0 : wa.cell? ⟨w.heap.size, 0, none⟩ = some (.int .i64 r.kind) := by rw [M0.out.cell]; rfl
  have n0' : wa.cell? ⟨w.heap.size, 1, none⟩ = some (.slice A r.set.length c) := by rw [M0.out.cell]; rfl
  have n0'' : wa.cell? ⟨w.heap.size, 2, none⟩ = some (.slice K r.kids.length ck) := by rw [M0.out.cell]; rfl
  have HT := Lib.hid (tl_len t)
  go_enter Try.func38, Try.ntmps38
  go_wp2_with fail
  clear hwa
  refine (sRexOk_c _ _ _ _ _ HV.out hsz).mono ?_
  rintro e w1 ⟨rfl, b1⟩
  have H1 := Lib.hid b1
  replace M0 := Lib.hid (M0.out.below b1)
  clear n0 n0' n0'' b1
  have n0 : w1.cell? ⟨w.heap.size, 0, none⟩ = some (.int .i64 r.kind) := by rw [M0.out.cell]; rfl
  have n0' : w1.cell? ⟨w.heap.size, 1, none⟩ = some (.slice A r.set.length c) := by rw [M0.out.cell]; rfl
  have n0'' : w1.cell? ⟨w.heap.size, 2, none⟩ = some (.slice K r.kids.length ck) := by rw [M0.out.cell]; rfl
  by_cases hf : rexOk r = true
  · have HF := Lib.hid hf
    rw [hf]
    clear hf
    go_wp2_with fail
    refine (sWord_c _ _).mono ?_
    rintro e w1 ⟨rfl, rfl⟩
    by_cases ht : t.size ≤ 12
    · have HX := Lib.hid ht
      rw [decide_eq_true (show (t.size : Int) ≤ 12 by omega)]
      by_cases hn : 0 ≤ n ∧ n ≤ t.size
      · obtain ⟨hn0, hn1⟩ := hn
        obtain ⟨q, rfl⟩ := Int.eq_ofNat_of_zero_le hn0
        have hq : q ≤ t.size := by omega
        have EM : Hid (matchLong r t.data.toList q = longGo (fun m => lang r ((t.data.toList.drop q).take m)) (t.size - q)) := by
          show _ = _
          rw [matchLong, if_pos ⟨HF.out, by rw [HT.out]; exact HX.out, hn0, by rw [HT.out]; exact hn1⟩, HT.out]
          rfl
        clear hn0 hn1
        go_wp2
        go_loopg [7] (t.size - q + 1) (fun m x wr => ∃ k : Int, x = .int .i64 k ∧ Hid (k = (q : Int) + m - 1) ∧ Hid (q + m ≤ t.size + 1) ∧ Hid ((if m = 0 then -1 else longGo (fun m => lang r ((t.data.toList.drop q).take m)) (m - 1)) = matchLong r t.data.toList q) ∧ Hid (Below w1.heap.size w1 wr))
        case atStart =>
          refine ⟨t.size, rfl, ?_, ?_, ?_, Below.refl _ _⟩
          · show _ = _; omega
          · show _ ≤ _; omega
          · show _ = _
            rw [EM.out, if_neg (by omega), Nat.add_sub_cancel]
        case round =>
          obtain ⟨k, rfl, hk, hm, HL, HW⟩ := hrel
          by_cases h0 : gk = 0
          · subst h0
            have hlt : ¬ ((q : Int) ≤ k) := by have := hk.out; omega
            go_wp2
            go_ret
            exact ⟨ret_int (by rw [← HL.out]; rfl), below_then HB.out (below_then H1.out HW.out)⟩
          · obtain ⟨m, rfl⟩ : ∃ m, gk = m + 1 := ⟨gk - 1, by omega⟩
            obtain rfl : k = ((q + m : Nat) : Int) := by have := hk.out; omega
            have hmm : q + m ≤ t.size := by have := hm.out; omega
            have N0 : ∀ x : BW wr, x.w1.cell? ⟨w.heap.size, 0, none⟩ = some (.int .i64 r.kind) := fun x => by rw [(M0.out.below (below_then HW.out x.up)).cell]; rfl
            have N1 : ∀ x : BW wr, x.w1.cell? ⟨w.heap.size, 1, none⟩ = some (.slice A r.set.length c) := fun x => by rw [(M0.out.below (below_then HW.out x.up)).cell]; rfl
            have N2 : ∀ x : BW wr, x.w1.cell? ⟨w.heap.size, 2, none⟩ = some (.slice K r.kids.length ck) := fun x => by rw [(M0.out.below (below_then HW.out x.up)).cell]; rfl
            have EX : Hid ((t.extract q (q + m)).data.toList = (t.data.toList.drop q).take m) := by show _ = _; rw [Go.Lib.extract_data, Nat.add_sub_cancel_left]
            have ES := ext_size t q (q + m)
            have hts : t.size ≤ 1000 := by omega
            by_cases hg : lang r ((t.data.toList.drop q).take m) = true
            · have HG : Hid (lang r (t.extract q (q + m)).data.toList = true) := by show _ = _; rw [EX.out]; exact hg
              have EL : Hid (matchLong r t.data.toList q = m) := by show _ = _; rw [← HL.out, if_neg (by omega), Nat.add_sub_cancel]; exact longGo_yes hg
              clear hg
              go_wp2
              refine wp_region_bw (by kernel_rfl) (by kernel_rfl) ?_
              repeat (go_big_quiet_step ((go_at_call 76; with_reducible exact (l3Is_c r).bw (d := 8) (rexOk_formed HF.out) (by omega) (HV.out.under (below_then H1.out (below_then HW.out (BW.up _)))) HG.out)))
              refine wpQuiet_nil ?_
              rintro w2 ⟨x1, y1⟩
              have b2 : Below wr.heap.size wr w2 := y1 ▸ x1.up
              clear y1 x1 N0 N1 N2 ES
              go_wp2
              go_ret
              exact ⟨ret_int (by rw [EL.out]; omega), below_then HB.out (below_then H1.out (below_then HW.out b2))⟩
            · have HG : Hid (lang r (t.extract q (q + m)).data.toList = false) := by show _ = _; rw [EX.out]; simpa using hg
              have EL := Lib.hid (longGo_no (p := fun m => lang r ((t.data.toList.drop q).take m)) (n := m) (by simpa using hg))
              clear hg
              go_wp2
              refine wp_region_bw (by kernel_rfl) (by kernel_rfl) ?_
              repeat (go_big_quiet_step ((go_at_call 76; with_reducible exact (l3Is_c r).bw (d := 8) (rexOk_formed HF.out) (by omega) (HV.out.under (below_then H1.out (below_then HW.out (BW.up _)))) HG.out)))
              refine wpQuiet_nil ?_
              rintro w2 ⟨x1, y1⟩
              have b2 : Below wr.heap.size wr w2 := y1 ▸ x1.up
              clear y1 x1 N0 N1 N2 ES
              go_wp2
              go_roundg m
              case rel =>
                refine ⟨(q : Int) + m - 1, by go_num, ?_, ?_, ?_, below_then HW.out b2⟩
                · show _ = _; omega
                · show _ ≤ _; omega
                · show _ = _
                  rw [← EL.out]
                  have := HL.out
                  rw [if_neg (by omega), Nat.add_sub_cancel] at this
                  exact this
              case measure => omega
      · by_cases hn0 : n < 0
        · have d0 : decide (n < 0) = true := decide_eq_true hn0
          go_wp2
          go_ret
          exact ⟨ret_int (matchLong_no (fun h => by have := h.2.2.1; omega)).symm, below_then HB.out H1.out⟩
        · have d0 : decide (n < 0) = false := decide_eq_false hn0
          have d1 : decide ((t.size : Int) < n) = true := decide_eq_true (by omega)
          have HN : Hid ((t.size : Int) < n) := by show _ < _; omega
          clear hn hn0
          go_wp2
          go_ret
          exact ⟨ret_int (matchLong_no (fun h => by have h2 := h.2.2.2; rw [HT.out] at h2; have := HN.out; omega)).symm, below_then HB.out H1.out⟩
    · have HX := Lib.hid ht
      rw [decide_eq_false (show ¬ (t.size : Int) ≤ 12 by omega)]
      clear ht
      go_wp2
      go_ret
      exact ⟨ret_int (matchLong_no (fun h => HX.out (by rw [← HT.out]; exact h.2.1))).symm, below_then HB.out H1.out⟩
  · have HF : Hid (rexOk r = false) := by show _ = _; simpa using hf
    rw [HF.out]
    clear hf
    go_wp2
    go_ret
    exact ⟨ret_int (matchLong_no (fun h => by rw [HF.out] at h; exact absurd h.1 (by simp))).symm, below_then HB.out H1.out⟩

end Go.Proofs.Ytiaccimbkghofaa
