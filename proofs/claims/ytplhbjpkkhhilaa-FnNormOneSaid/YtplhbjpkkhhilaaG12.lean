/- Texts joined for the claims: E7 Dt8 W4s T3. -/
import Derived.Test.YtplhbjpkkhhilaaG4
import Derived.Test.YtplhbjpkkhhilaaG11
import Derived.Test.YtplhbjpkkhhilaaG10
import Derived.Test.YtplhbjpkkhhilaaG2
/- MatchWord, MatchIs, MatchLong of the program. -/
namespace Go.Proofs.Ytplhbjpkkhhilaa
set_option linter.unusedSimpArgs false
set_option linter.unusedVariables false
open Go.RowKit

theorem iWord_c (s : ByteArray) (w : World) :
    Calls Try.prog 26 #[.string s] w fun e w' => e = .returned (.bool (decide ((s.size : Int) ≤ 12))) ∧ w = w' := by
  go_enter Try.func26, Try.ntmps26
  go_wp2
  go_ret
  exact ⟨rfl, rfl⟩
abbrev TRow : Nat := 72
theorem run_index_pc (f : Nat → Nat → Bool) (w : World) : (Instr.index TPc (.agg (pcells f).toArray) (.int .i64 0)).run Try.prog w = .ok (.agg ((pcells f).take 13).toArray) w := by
  have hu : Try.prog.underlying TPc = some (.array 13 TRow) := Try.underlying74
  have hu' : Try.prog.underlying TRow = some (.array 13 4) := Try.underlying72
  obtain ⟨i, hi, hz⟩ := Option.map_eq_some_iff.1 (show (Try.prog.info? TRow).map (·.size) = some 13 by kernel_rfl)
  have hl : (pcells f).length = 169 := pcells_length f
  simp [Instr.index, asIntOf, run_underlying hu, sizeOf, typeInfo, hi, hz, part, isAgg, run_underlying hu']
theorem run_index_pr (f : Nat → Nat → Bool) (k : Nat) (hk : k < 13) (w : World) : (Instr.index TRow (.agg ((pcells f).take 13).toArray) (.int .i64 k)).run Try.prog w = .ok (.bool (f 0 k)) w := by
  have hu : Try.prog.underlying TRow = some (.array 13 4) := Try.underlying72
  obtain ⟨i, hi, hz⟩ := Option.map_eq_some_iff.1 (show (Try.prog.info? 4).map (·.size) = some 1 by kernel_rfl)
  have e := pcells_get f (i := 0) (j := k) (by omega) hk
  rw [Nat.zero_mul, Nat.zero_add] at e
  simp [Instr.index, asIntOf, run_underlying hu, hk, sizeOf, typeInfo, hi, hz, part, isAgg, run_underlying Try.underlying4, e]
set_option maxHeartbeats 1000000 in
theorem iMatchIs_c (r : Rex) (t : ByteArray) (v1 v2 : Value) (w : World) (lo : Nat) (h : RexV w lo r (.int .i64 r.kind) v1 v2) (hsz : r.size ≤ 1048576) :
    Calls Try.prog 28 #[.agg #[.int .i64 r.kind, v1, v2], .string t] w fun e w' => e = .returned (.bool (matchIs r t.data.toList)) ∧ Below w.heap.size w w' := by
  obtain ⟨A, c, K, ck, _, rfl, rfl, _, _⟩ := h.parts
  obtain ⟨wa, hwa⟩ : ∃ x, x = w.alloc (.cells #[.int .i64 r.kind, .slice A r.set.length c, .slice K r.kids.length ck] 34) := ⟨_, rfl⟩
  have hb : Below w.heap.size w wa := by rw [hwa]; exact below_alloc (Below.refl _ _) _
  have m0 : Blk wa w.heap.size #[.int .i64 r.kind, .slice A r.set.length c, .slice K r.kids.length ck] 34 := by rw [hwa]; exact blk_new w _ _
  have HV := Lib.hid (h.under hb)
  have HB := Lib.hid hb
  have M0 := Lib.hid m0
  clear hb m0 h
  replace hwa := hwa.symm
  have n0 : wa.cell? ⟨w.heap.size, 0, none⟩ = some (.int .i64 r.kind) := by rw [M0.out.cell]; rfl
  have n0' : wa.cell? ⟨w.heap.size, 1, none⟩ = some (.slice A r.set.length c) := by rw [M0.out.cell]; rfl
  have n0'' : wa.cell? ⟨w.heap.size, 2, none⟩ = some (.slice K r.kids.length ck) := by rw [M0.out.cell]; rfl
  have HT := Lib.hid (tl_len t)
  go_enter Try.func28, Try.ntmps28
  go_wp2_with fail
  clear hwa
  refine (iRexOk_c _ _ _ _ _ HV.out hsz).mono ?_
  rintro e w1 ⟨rfl, b1⟩
  have H1 := Lib.hid b1
  replace M0 := Lib.hid (M0.out.below b1)
  clear n0 n0' n0'' b1
  have n0 : w1.cell? ⟨w.heap.size, 0, none⟩ = some (.int .i64 r.kind) := by rw [M0.out.cell]; rfl
  have n0' : w1.cell? ⟨w.heap.size, 1, none⟩ = some (.slice A r.set.length c) := by rw [M0.out.cell]; rfl
  have n0'' : w1.cell? ⟨w.heap.size, 2, none⟩ = some (.slice K r.kids.length ck) := by rw [M0.out.cell]; rfl
  by_cases hf : rexOk r = true
  · have HF := Lib.hid hf
    rw [hf]
    clear hf
    go_wp2_with fail
    refine (iWord_c _ _).mono ?_
    rintro e w1 ⟨rfl, rfl⟩
    by_cases ht : t.size ≤ 12
    · have HX := Lib.hid ht
      rw [decide_eq_true (show (t.size : Int) ≤ 12 by omega)]
      clear ht
      go_wp2_with fail
      refine (piecesOf_c r 8 t _ _ _ _ (rexOk_formed HF.out) (by have := HX.out; omega) (HV.out.under H1.out)).mono ?_
      rintro e w2 ⟨rfl, b2⟩
      clear n0 n0' n0''
      have x1 := fun wx => run_index_pc (pcF r t.data.toList) wx
      have x2 := fun wx => run_index_pr (pcF r t.data.toList) t.size (by have := HX.out; omega) wx
      go_wp2
      go_ret
      exact ⟨ret_bool (by rw [matchIs_of HF.out (by rw [HT.out]; exact HX.out), pcF_eq _ _ (Nat.zero_le _) (by rw [HT.out]; omega)]; unfold pc sub; rw [List.drop_zero, List.take_of_length_le (by rw [HT.out]; omega)]), below_then HB.out (below_then H1.out b2)⟩
    · have HX := Lib.hid ht
      rw [decide_eq_false (show ¬ (t.size : Int) ≤ 12 by omega)]
      clear ht
      go_wp2
      go_ret
      exact ⟨ret_bool (matchIs_no2 (by rw [HT.out]; exact HX.out)).symm, below_then HB.out H1.out⟩
  · have HF : Hid (rexOk r = false) := by show _ = _; simpa using hf
    rw [HF.out]
    clear hf
    go_wp2
    go_ret
    exact ⟨ret_bool (matchIs_no1 HF.out).symm, below_then HB.out H1.out⟩

theorem sub_eq (t : Txt) (q m : Nat) : sub t q (q + m) = (t.drop q).take m := by unfold sub; rw [List.drop_take, Nat.add_sub_cancel_left]
set_option maxRecDepth 100000 in
set_option maxHeartbeats 1000000 in
theorem iMatchLong_c (r : Rex) (t : ByteArray) (n : Int) (v1 v2 : Value) (w : World) (lo : Nat) (h : RexV w lo r (.int .i64 r.kind) v1 v2) (hsz : r.size ≤ 1048576) :
    Calls Try.prog 32 #[.agg #[.int .i64 r.kind, v1, v2], .string t, .int .i64 n] w fun e w' => e = .returned (.int .i64 (matchLong r t.data.toList n)) ∧ Below w.heap.size w w' := by
  obtain ⟨A, c, K, ck, _, rfl, rfl, _, _⟩ := h.parts
  obtain ⟨wa, hwa⟩ : ∃ x, x = w.alloc (.cells #[.int .i64 r.kind, .slice A r.set.length c, .slice K r.kids.length ck] 34) := ⟨_, rfl⟩
  have hb : Below w.heap.size w wa := by rw [hwa]; exact below_alloc (Below.refl _ _) _
  have m0 : Blk wa w.heap.size #[.int .i64 r.kind, .slice A r.set.length c, .slice K r.kids.length ck] 34 := by rw [hwa]; exact blk_new w _ _
  have HV := Lib.hid (h.under hb)
  have HB := Lib.hid hb
  have M0 := Lib.hid m0
  clear hb m0 h
  replace hwa := hwa.symm
  have n0 : wa.cell? ⟨w.heap.size, 0, none⟩ = some (.int .i64 r.kind) := by rw [M0.out.cell]; rfl
  have n0' : wa.cell? ⟨w.heap.size, 1, none⟩ = some (.slice A r.set.length c) := by rw [M0.out.cell]; rfl
  have n0'' : wa.cell? ⟨w.heap.size, 2, none⟩ = some (.slice K r.kids.length ck) := by rw [M0.out.cell]; rfl
  have HT := Lib.hid (tl_len t)
  go_enter Try.func32, Try.ntmps32
  go_wp2_with fail
  clear hwa
  refine (iRexOk_c _ _ _ _ _ HV.out hsz).mono ?_
  rintro e w1 ⟨rfl, b1⟩
  have H1 := Lib.hid b1
  replace M0 := Lib.hid (M0.out.below b1)
  clear n0 n0' n0'' b1
  have n0 : w1.cell? ⟨w.heap.size, 0, none⟩ = some (.int .i64 r.kind) := by rw [M0.out.cell]; rfl
  have n0' : w1.cell? ⟨w.heap.size, 1, none⟩ = some (.slice A r.set.length c) := by rw [M0.out.cell]; rfl
  have n0'' : w1.cell? ⟨w.heap.size, 2, none⟩ = some (.slice K r.kids.length ck) := by rw [M0.out.cell]; rfl
  by_cases hf : rexOk r = true
  · have HF := Lib.hid hf
    rw [hf]
    clear hf
    go_wp2_with fail
    refine (iWord_c _ _).mono ?_
    rintro e w1 ⟨rfl, rfl⟩
    by_cases ht : t.size ≤ 12
    · have HX := Lib.hid ht
      rw [decide_eq_true (show (t.size : Int) ≤ 12 by omega)]
      go_wp2_with fail
      refine (in_c _ _ _ _).mono ?_
      rintro e w1 ⟨rfl, rfl⟩
      by_cases hn : 0 ≤ n ∧ n ≤ t.size
      · obtain ⟨hn0, hn1⟩ := hn
        rw [decide_eq_true hn0, decide_eq_true hn1]
        obtain ⟨q, rfl⟩ := Int.eq_ofNat_of_zero_le hn0
        have hq : q ≤ t.size := by omega
        have EM : Hid (matchLong r t.data.toList q = longGo (fun m => lang r ((t.data.toList.drop q).take m)) (t.size - q)) := by
          show _ = _
          rw [matchLong, if_pos ⟨HF.out, by rw [HT.out]; exact HX.out, hn0, by rw [HT.out]; exact hn1⟩, HT.out]
          rfl
        clear hn0 hn1
        go_wp2_with fail
        refine (piecesOf_c r 8 t _ _ _ _ (rexOk_formed HF.out) (by have := HX.out; omega) (HV.out.under H1.out)).mono ?_
        rintro e w2 ⟨rfl, b2⟩
        clear n0 n0' n0''
        have B2 := Lib.hid b2
        clear b2
        go_wp2_with (first
          | (refine ev_store rfl rfl TPc (.tmp 7) (.tmp 26) rfl w2.heap.size 0 rfl (pcells (pcF r t.data.toList)) rfl _ TPc (blk_new w2 _ _) (sizePc' _) (by rw [zc68, List.size_toArray, pcells_length, pcells_length]; omega) (pcells_one _) ?_; intro w5 hX5 hg5; have HX5 := Lib.hid hX5; have HG5 := Lib.hid hg5; clear hX5 hg5))
        have P5 : Hid (PRow w5 w2.heap.size 0 (pcF r t.data.toList)) := by
          have h5 := HX5.out
          rw [List.take_zero, List.nil_append, List.drop_of_length_le (by rw [zc68]; simp [pcells_length]), List.append_nil] at h5
          exact h5.prow
        have B5 : Hid (Below w1.heap.size w1 w5) := (below_then B2.out (below_alloc (Below.refl _ _) _)).grown HG5.out (by simp; have := B2.out.size; omega) (by rintro k' e; injection e with e; have := B2.out.size; omega)
        clear HX5 HG5 B2
        have hts : t.size ≤ 1000 := by omega
        go_loopg [8] (t.size - q + 1) (fun m x wr => ∃ k : Int, x = .int .i64 k ∧ Hid (k = (m : Int) - 1) ∧ Hid (q + m ≤ t.size + 1) ∧ Hid ((if m = 0 then -1 else longGo (fun m => lang r ((t.data.toList.drop q).take m)) (m - 1)) = matchLong r t.data.toList q) ∧ wr = w5)
        case atStart =>
          refine ⟨(t.size : Int) - q, rfl, ?_, ?_, ?_, rfl⟩
          · show _ = _; omega
          · show _ ≤ _; omega
          · show _ = _
            rw [EM.out, if_neg (by omega), Nat.add_sub_cancel]
        case round =>
          obtain ⟨k, rfl, hk, hm, HL, rfl⟩ := hrel
          by_cases h0 : gk = 0
          · subst h0
            have hlt : k < 0 := by have := hk.out; omega
            go_wp2
            go_ret
            exact ⟨ret_int (by rw [← HL.out]; rfl), below_then HB.out (below_then H1.out B5.out)⟩
          · obtain ⟨m, rfl⟩ : ∃ m, gk = m + 1 := ⟨gk - 1, by omega⟩
            obtain rfl : k = (m : Int) := by have := hk.out; omega
            have hmm : q + m ≤ t.size := by have := hm.out; omega
            have EX : Hid (pcF r t.data.toList q (q + m) = lang r ((t.data.toList.drop q).take m)) := by
              show _ = _
              rw [pcF_eq _ _ (by omega) (by rw [HT.out]; omega)]
              unfold pc
              rw [sub_eq]
            have c5 := P5.out.cell (i := q) (j := q + m) (by omega) (by omega)
            rw [EX.out] at c5
            by_cases hg : lang r ((t.data.toList.drop q).take m) = true
            · have EL : Hid (matchLong r t.data.toList q = m) := by show _ = _; rw [← HL.out, if_neg (by omega), Nat.add_sub_cancel]; exact longGo_yes hg
              rw [hg] at c5
              clear hg
              go_wp2
              go_ret
              exact ⟨ret_int EL.out.symm, below_then HB.out (below_then H1.out B5.out)⟩
            · have EL := Lib.hid (longGo_no (p := fun m => lang r ((t.data.toList.drop q).take m)) (n := m) (by simpa using hg))
              rw [show lang r ((t.data.toList.drop q).take m) = false by simpa using hg] at c5
              clear hg
              go_wp2
              go_roundg m
              case rel =>
                refine ⟨(m : Int) - 1, by go_num, ?_, ?_, ?_, rfl⟩
                · show _ = _; omega
                · show _ ≤ _; omega
                · show _ = _
                  rw [← EL.out]
                  have := HL.out
                  rw [if_neg (by omega), Nat.add_sub_cancel] at this
                  exact this
              case measure => omega
      · have HN : Hid (matchLong r t.data.toList n = -1) := matchLong_no (fun h => hn ⟨h.2.2.1, by have := h.2.2.2; rw [HT.out] at this; exact this⟩)
        rw [show (decide (0 ≤ n) && decide (n ≤ (t.size : Int))) = false by simp only [Bool.and_eq_false_iff, decide_eq_false_iff_not]; omega]
        clear hn
        go_wp2
        go_ret
        exact ⟨ret_int HN.out.symm, below_then HB.out H1.out⟩
    · have HX := Lib.hid ht
      rw [decide_eq_false (show ¬ (t.size : Int) ≤ 12 by omega)]
      clear ht
      go_wp2
      go_ret
      exact ⟨ret_int (matchLong_no (fun h => HX.out (by rw [← HT.out]; exact h.2.1))).symm, below_then HB.out H1.out⟩
  · have HF : Hid (rexOk r = false) := by show _ = _; simpa using hf
    rw [HF.out]
    clear hf
    go_wp2
    go_ret
    exact ⟨ret_int (matchLong_no (fun h => by rw [HF.out] at h; exact absurd h.1 (by simp))).symm, below_then HB.out H1.out⟩

end Go.Proofs.Ytplhbjpkkhhilaa

/- What draws two trees out of a code: DrawRexSame. -/
namespace Go.Proofs.Ytplhbjpkkhhilaa
set_option linter.unusedSimpArgs false
set_option linter.unusedVariables false
open Go.RowKit

def set3 (w : World) (R : Nat) (u0 u1 u2 : Value) : World := ((w.setCell ⟨R, 0, none⟩ u0).setCell ⟨R, 1, none⟩ u1).setCell ⟨R, 2, none⟩ u2
theorem set3_far (w : World) (R : Nat) (u0 u1 u2 : Value) {b : Nat} (hb : b ≠ R) : (set3 w R u0 u1 u2).heap[b]? = w.heap[b]? :=
  (Below.heap_setCell _ _ _ _ hb).trans ((Below.heap_setCell _ _ _ _ hb).trans (Below.heap_setCell _ _ _ _ hb))
theorem set3_blk {w : World} {R : Nat} {z0 z1 z2 : Value} (u0 u1 u2 : Value) (h : Blk w R #[z0, z1, z2] TRx) : Blk (set3 w R u0 u1 u2) R #[u0, u1, u2] TRx := by
  unfold set3
  simpa using ((h.set 0 u0).set 1 u1).set 2 u2
theorem set3_below {w w1 : World} {R : Nat} {u0 u1 u2 : Value} (h : Below w.heap.size w w1) (hR : w.heap.size ≤ R) : Below w.heap.size w (set3 w1 R u0 u1 u2) := below_set (below_set (below_set h hR _) hR _) hR _
/-- two trees were drawn -/
def DrawRR (w : World) (e : Ending) (w' : World) : Prop :=
  ∃ r A c K ck s B d M dm, e = .returned (.tuple #[.agg #[.int .i64 r.kind, .slice A r.set.length c, .slice K r.kids.length ck], .agg #[.int .i64 s.kind, .slice B s.set.length d, .slice M s.kids.length dm]]) ∧ RexP w' (fun b => w.heap.size ≤ b) r (.int .i64 r.kind) (.slice A r.set.length c) (.slice K r.kids.length ck) ∧
    RexP w' (fun b => w.heap.size ≤ b) s (.int .i64 s.kind) (.slice B s.set.length d) (.slice M s.kids.length dm) ∧ r.size ≤ 230000 ∧ s.size ≤ 230000 ∧ Below w.heap.size w w'
theorem rr_fin {w wr : World} {R R' : Nat} {u0 u1 u2 y0 y1 y2 z0 z1 z2 x0 x1 x2 : Value} (hne : R ≠ R') (h1 : w.heap.size ≤ R) (h2 : w.heap.size ≤ R') (hb : Below w.heap.size w wr) (hR : Blk wr R #[z0, z1, z2] TRx) (hR' : Blk wr R' #[x0, x1, x2] TRx) :
    Below w.heap.size w (set3 (set3 wr R u0 u1 u2) R' y0 y1 y2) ∧ Blk (set3 (set3 wr R u0 u1 u2) R' y0 y1 y2) R #[u0, u1, u2] TRx ∧ Blk (set3 (set3 wr R u0 u1 u2) R' y0 y1 y2) R' #[y0, y1, y2] TRx ∧ ∀ b, b ≠ R → b ≠ R' → (set3 (set3 wr R u0 u1 u2) R' y0 y1 y2).heap[b]? = wr.heap[b]? :=
  ⟨set3_below (set3_below hb h1) h2, ⟨(set3_far _ _ _ _ _ hne).trans (set3_blk _ _ _ hR).eq⟩, set3_blk _ _ _ ⟨(set3_far _ _ _ _ _ (Ne.symm hne)).trans hR'.eq⟩, fun b e e' => (set3_far _ _ _ _ _ e').trans (set3_far _ _ _ _ _ e)⟩

theorem rex_kind {w : World} {p : Nat → Prop} {s : Rex} {B M : Option Addr} {d dm : Nat} (k : Int) (h : RexP w p s (.int .i64 s.kind) (.slice B s.set.length d) (.slice M s.kids.length dm)) : RexP w p (.mk k s.set s.kids) (.int .i64 k) (.slice B s.set.length d) (.slice M s.kids.length dm) := by
  obtain ⟨k', ss, ks⟩ := s
  exact h.kind'
set_option maxRecDepth 100000 in
set_option maxHeartbeats 4000000 in
theorem drawRR_c (A0 : Option Addr) (c0 : Nat) (bs0 : List Int) (w : World) (h0 : Bys w 0 A0 c0 bs0) :
    Calls Try.prog 19 #[.slice A0 bs0.length c0] w (DrawRR w) := by
  obtain ⟨wa, hwa⟩ : ∃ x, x = (w.alloc (.cells #[.int .i64 0, nilS, nilS] TRx)).alloc (.cells #[.int .i64 0, nilS, nilS] TRx) := ⟨_, rfl⟩
  have N0a : Hid (Blk wa w.heap.size #[.int .i64 0, nilS, nilS] TRx) := by rw [hwa]; exact (blk_new w _ _).alloc _
  have N1a : Hid (Blk wa (w.heap.size + 1) #[.int .i64 0, nilS, nilS] TRx) := by
    rw [hwa]
    have := blk_new (w.alloc (.cells #[.int .i64 0, nilS, nilS] TRx)) #[.int .i64 0, nilS, nilS] TRx
    show Blk _ _ _ _
    simpa using this
  have GAa : Hid (Below w.heap.size w wa) := by rw [hwa]; exact below_alloc (below_alloc (Below.refl _ _) _) _
  have RA : Hid (Bys wa 0 A0 c0 bs0) := h0.below (lo := 0) GAa.out
  have hza : wa.heap.size = w.heap.size + 2 := by rw [hwa]; simp
  replace hwa := hwa.symm
  go_enter Try.func19, Try.ntmps19
  go_wp2_with fail
  clear hwa h0
  refine (open_c _ _ _ _ RA.out).mono ?_
  rintro e w1 ⟨g, rfl, HR1, hga, b1⟩
  have hz1 := b1.size
  have hg1 := HR1.lt
  go_wp2_with fail
  refine (sBent_c g 0 w1 HR1 (by omega)).mono ?_
  rintro e w2 ⟨r, A, c, K, ck, q, rfl, hv, hs, HR2, hq, HG2⟩
  have b2 := b1.grown HG2 b1.size (fun k hk => by injection hk with hk; omega)
  have hz2 := HG2.size
  clear HG2 HR1 HR2 b1
  go_wp2_with fail
  obtain ⟨wc, hwc⟩ : ∃ x, x = w2.alloc (.cells #[.int .i64 r.kind, .slice A r.set.length c, .slice K r.kids.length ck] TRx) := ⟨_, rfl⟩
  have hbc : Below w2.heap.size w2 wc := by rw [hwc]; exact below_alloc (Below.refl _ _) _
  have MXc : Hid (Blk wc w2.heap.size #[.int .i64 r.kind, .slice A r.set.length c, .slice K r.kids.length ck] TRx) := by rw [hwc]; exact blk_new w2 _ _
  have HXc := Lib.hid ((hv.lt.under hbc).mono (p' := fun b => w.heap.size + 1 < b ∧ b < w2.heap.size) fun b hb => by omega)
  have b3 := below_then b2 hbc
  have RAc := Lib.hid (RA.out.below (lo := 0) b3)
  have hXc := MXc.out.lt
  rw [← hwc]
  clear hbc hwc hv b2
  obtain ⟨X, hX⟩ : ∃ X, X = w2.heap.size := ⟨_, rfl⟩
  rw [← hX] at MXc HXc hXc
  refine (open_c _ _ _ _ RAc.out).mono ?_
  rintro e w4 ⟨g2, rfl, HR4, hga4, b4⟩
  have hz4 := b4.size
  have hg4 := HR4.lt
  have MX4 := Lib.hid (MXc.out.below b4)
  have HX4 := Lib.hid (HXc.out.under b4)
  have b5 := below_then b3 b4
  clear b4 MXc HXc b3
  go_wp2_with fail
  refine (sBent_c g2 0 w4 HR4 (by omega)).mono ?_
  rintro e w5 ⟨s, B, d, M, dm, q2, rfl, hv2, hs2, HR5, hq5, HG5⟩
  have b6 := b5.grown HG5 b5.size (fun k hk => by injection hk with hk; omega)
  have hz5 := HG5.size
  have MX5 := Lib.hid (MX4.out.grown HG5 (fun k hk => by injection hk with hk; omega))
  have HX5 := Lib.hid (HX4.out.grown HG5 (fun b hb => by omega))
  clear HG5 HR5 HR4 b5 MX4 HX4
  by_cases hl : 0 < bs0.length
  · obtain ⟨a, z, rfl, c0, z0, z1⟩ := (RA.out.below (lo := 0) b6).at_ 0 hl
    rw [show a.add 0 = a by simp [Addr.add]] at c0
    have ya := fun o => cell_alloc c0 o
    have hl2 : (0 : Int) < (bs0.length : Int) := by omega
    have t0 : z.tmod 2 = z % 2 := Int.tmod_eq_emod_of_nonneg z0
    by_cases hp : z % 2 = 1
    · go_wp2
      clear ya c0 t0
      obtain ⟨wf, hwf⟩ : ∃ x, x = w5.alloc (.cells #[.int .i64 (wrap64 (s.kind + 1)), .slice B s.set.length d, .slice M s.kids.length dm] TRx) := ⟨_, rfl⟩
      have hbf : Below w5.heap.size w5 wf := by rw [hwf]; exact below_alloc (Below.refl _ _) _
      have MYf : Hid (Blk wf w5.heap.size #[.int .i64 (wrap64 (s.kind + 1)), .slice B s.set.length d, .slice M s.kids.length dm] TRx) := by rw [hwf]; exact blk_new w5 _ _
      have MXf := Lib.hid (MX5.out.below hbf)
      have HXf := Lib.hid (HX5.out.under hbf)
      have HYf := Lib.hid (((rex_kind (wrap64 (s.kind + 1)) hv2).lt.under hbf).mono (p' := fun b => X < b ∧ b ≠ w5.heap.size) fun b hb => by omega)
      have b7 := below_then b6 hbf
      have GAf := Lib.hid (below_then GAa.out b7)
      have N0f := Lib.hid (N0a.out.below b7)
      have N1f := Lib.hid (N1a.out.below b7)
      have hYf := MYf.out.lt
      rw [← hwf]
      obtain ⟨Y, hY⟩ : ∃ Y, Y = w5.heap.size := ⟨_, rfl⟩
      have hXY : X < Y := by omega
      have hwX : w.heap.size + 1 < X := by omega
      rw [← hY] at MYf HYf hYf ⊢
      rw [← hX]
      have hs2' : s.set.length + (s.kids.length + sizeL s.kids) ≤ 230000 := by rw [Rex.eta s, Rex.size] at hs2; exact hs2
      clear hbf hwf hv2 b6 b7 MX5 HX5 RA N0a N1a GAa hY hX
      have x0 := (MXf.out.cell 0).trans rfl
      have x1 := (MXf.out.cell 1).trans rfl
      have x2 := (MXf.out.cell 2).trans rfl
      have y0 := (MYf.out.cell 0).trans rfl
      have y1 := (MYf.out.cell 1).trans rfl
      have y2 := (MYf.out.cell 2).trans rfl
      have m0 := (N0f.out.cell 0).trans rfl
      have m1 := (N0f.out.cell 1).trans rfl
      have m2 := (N0f.out.cell 2).trans rfl
      have k0 := (N1f.out.cell 0).trans rfl
      have k1 := (N1f.out.cell 1).trans rfl
      have k2 := (N1f.out.cell 2).trans rfl
      have f0 := N0f.out.free 0
      have f1 := N0f.out.free 1
      have f2 := N0f.out.free 2
      have e0 := N1f.out.free 0
      have e1 := N1f.out.free 1
      have e2 := N1f.out.free 2
      go_wp2
      go_region
      all_goals
        clear x0 x1 x2 y0 y1 y2 m0 m1 m2 k0 k1 k2 f0 f1 f2 e0 e1 e2
        go_wp2
        obtain ⟨f1, f2, f3, f4⟩ := rr_fin (w := w) (R := w.heap.size) (R' := w.heap.size + 1) (u0 := .int .i64 r.kind) (u1 := .slice A r.set.length c) (u2 := .slice K r.kids.length ck) (y0 := .int .i64 (wrap64 (s.kind + 1))) (y1 := .slice B s.set.length d) (y2 := .slice M s.kids.length dm) (by omega) (by omega) (by omega) GAf.out N0f.out N1f.out
        have g2 := f2.below (below_drew (Below.refl _ _))
        have g3 := f3.below (below_drew (Below.refl _ _))
        refine bodyPost_ret (results_row_row rfl _ _ w.heap.size (w.heap.size + 1) TRx TRx _ _ (0, 0) (0, 0) _ rfl g2.eq Try.underlying34 rfl (by rw [sizeRx]; rfl) rfl g3.eq (by rw [sizeRx]; rfl)) rfl ?_
        exact ⟨r, A, c, K, ck, .mk (wrap64 (s.kind + 1)) s.set s.kids, B, d, M, dm, rfl, ((HXf.out.keep fun b hb _ => f4 b (by omega) (by omega)).under (below_drew (Below.refl _ _))).mono fun b hb => by omega, ((HYf.out.keep fun b hb _ => f4 b (by omega) (by omega)).under (below_drew (Below.refl _ _))).mono fun b hb => by omega, hs, by rw [Rex.size]; exact hs2', below_drew f1⟩
    · have hp' : z % 2 = 0 := by omega
      go_wp2
      clear ya c0 t0
      obtain ⟨wf, hwf⟩ : ∃ x, x = w5.alloc (.cells #[.int .i64 (s.kind), .slice B s.set.length d, .slice M s.kids.length dm] TRx) := ⟨_, rfl⟩
      have hbf : Below w5.heap.size w5 wf := by rw [hwf]; exact below_alloc (Below.refl _ _) _
      have MYf : Hid (Blk wf w5.heap.size #[.int .i64 (s.kind), .slice B s.set.length d, .slice M s.kids.length dm] TRx) := by rw [hwf]; exact blk_new w5 _ _
      have MXf := Lib.hid (MX5.out.below hbf)
      have HXf := Lib.hid (HX5.out.under hbf)
      have HYf := Lib.hid (((rex_kind (s.kind) hv2).lt.under hbf).mono (p' := fun b => X < b ∧ b ≠ w5.heap.size) fun b hb => by omega)
      have b7 := below_then b6 hbf
      have GAf := Lib.hid (below_then GAa.out b7)
      have N0f := Lib.hid (N0a.out.below b7)
      have N1f := Lib.hid (N1a.out.below b7)
      have hYf := MYf.out.lt
      rw [← hwf]
      obtain ⟨Y, hY⟩ : ∃ Y, Y = w5.heap.size := ⟨_, rfl⟩
      have hXY : X < Y := by omega
      have hwX : w.heap.size + 1 < X := by omega
      rw [← hY] at MYf HYf hYf ⊢
      rw [← hX]
      have hs2' : s.set.length + (s.kids.length + sizeL s.kids) ≤ 230000 := by rw [Rex.eta s, Rex.size] at hs2; exact hs2
      clear hbf hwf hv2 b6 b7 MX5 HX5 RA N0a N1a GAa hY hX
      have x0 := (MXf.out.cell 0).trans rfl
      have x1 := (MXf.out.cell 1).trans rfl
      have x2 := (MXf.out.cell 2).trans rfl
      have y0 := (MYf.out.cell 0).trans rfl
      have y1 := (MYf.out.cell 1).trans rfl
      have y2 := (MYf.out.cell 2).trans rfl
      have m0 := (N0f.out.cell 0).trans rfl
      have m1 := (N0f.out.cell 1).trans rfl
      have m2 := (N0f.out.cell 2).trans rfl
      have k0 := (N1f.out.cell 0).trans rfl
      have k1 := (N1f.out.cell 1).trans rfl
      have k2 := (N1f.out.cell 2).trans rfl
      have f0 := N0f.out.free 0
      have f1 := N0f.out.free 1
      have f2 := N0f.out.free 2
      have e0 := N1f.out.free 0
      have e1 := N1f.out.free 1
      have e2 := N1f.out.free 2
      go_wp2
      go_region
      all_goals
        clear x0 x1 x2 y0 y1 y2 m0 m1 m2 k0 k1 k2 f0 f1 f2 e0 e1 e2
        go_wp2
        obtain ⟨f1, f2, f3, f4⟩ := rr_fin (w := w) (R := w.heap.size) (R' := w.heap.size + 1) (u0 := .int .i64 r.kind) (u1 := .slice A r.set.length c) (u2 := .slice K r.kids.length ck) (y0 := .int .i64 (s.kind)) (y1 := .slice B s.set.length d) (y2 := .slice M s.kids.length dm) (by omega) (by omega) (by omega) GAf.out N0f.out N1f.out
        have g2 := f2.below (below_drew (Below.refl _ _))
        have g3 := f3.below (below_drew (Below.refl _ _))
        refine bodyPost_ret (results_row_row rfl _ _ w.heap.size (w.heap.size + 1) TRx TRx _ _ (0, 0) (0, 0) _ rfl g2.eq Try.underlying34 rfl (by rw [sizeRx]; rfl) rfl g3.eq (by rw [sizeRx]; rfl)) rfl ?_
        exact ⟨r, A, c, K, ck, .mk (s.kind) s.set s.kids, B, d, M, dm, rfl, ((HXf.out.keep fun b hb _ => f4 b (by omega) (by omega)).under (below_drew (Below.refl _ _))).mono fun b hb => by omega, ((HYf.out.keep fun b hb _ => f4 b (by omega) (by omega)).under (below_drew (Below.refl _ _))).mono fun b hb => by omega, hs, by rw [Rex.size]; exact hs2', below_drew f1⟩
  · go_wp2
    obtain ⟨wf, hwf⟩ : ∃ x, x = w5.alloc (.cells #[.int .i64 (s.kind), .slice B s.set.length d, .slice M s.kids.length dm] TRx) := ⟨_, rfl⟩
    have hbf : Below w5.heap.size w5 wf := by rw [hwf]; exact below_alloc (Below.refl _ _) _
    have MYf : Hid (Blk wf w5.heap.size #[.int .i64 (s.kind), .slice B s.set.length d, .slice M s.kids.length dm] TRx) := by rw [hwf]; exact blk_new w5 _ _
    have MXf := Lib.hid (MX5.out.below hbf)
    have HXf := Lib.hid (HX5.out.under hbf)
    have HYf := Lib.hid (((rex_kind (s.kind) hv2).lt.under hbf).mono (p' := fun b => X < b ∧ b ≠ w5.heap.size) fun b hb => by omega)
    have b7 := below_then b6 hbf
    have GAf := Lib.hid (below_then GAa.out b7)
    have N0f := Lib.hid (N0a.out.below b7)
    have N1f := Lib.hid (N1a.out.below b7)
    have hYf := MYf.out.lt
    rw [← hwf]
    obtain ⟨Y, hY⟩ : ∃ Y, Y = w5.heap.size := ⟨_, rfl⟩
    have hXY : X < Y := by omega
    have hwX : w.heap.size + 1 < X := by omega
    rw [← hY] at MYf HYf hYf ⊢
    rw [← hX]
    have hs2' : s.set.length + (s.kids.length + sizeL s.kids) ≤ 230000 := by rw [Rex.eta s, Rex.size] at hs2; exact hs2
    clear hbf hwf hv2 b6 b7 MX5 HX5 RA N0a N1a GAa hY hX
    have x0 := (MXf.out.cell 0).trans rfl
    have x1 := (MXf.out.cell 1).trans rfl
    have x2 := (MXf.out.cell 2).trans rfl
    have y0 := (MYf.out.cell 0).trans rfl
    have y1 := (MYf.out.cell 1).trans rfl
    have y2 := (MYf.out.cell 2).trans rfl
    have m0 := (N0f.out.cell 0).trans rfl
    have m1 := (N0f.out.cell 1).trans rfl
    have m2 := (N0f.out.cell 2).trans rfl
    have k0 := (N1f.out.cell 0).trans rfl
    have k1 := (N1f.out.cell 1).trans rfl
    have k2 := (N1f.out.cell 2).trans rfl
    have f0 := N0f.out.free 0
    have f1 := N0f.out.free 1
    have f2 := N0f.out.free 2
    have e0 := N1f.out.free 0
    have e1 := N1f.out.free 1
    have e2 := N1f.out.free 2
    go_wp2
    go_region
    all_goals
      clear x0 x1 x2 y0 y1 y2 m0 m1 m2 k0 k1 k2 f0 f1 f2 e0 e1 e2
      go_wp2
      obtain ⟨f1, f2, f3, f4⟩ := rr_fin (w := w) (R := w.heap.size) (R' := w.heap.size + 1) (u0 := .int .i64 r.kind) (u1 := .slice A r.set.length c) (u2 := .slice K r.kids.length ck) (y0 := .int .i64 (s.kind)) (y1 := .slice B s.set.length d) (y2 := .slice M s.kids.length dm) (by omega) (by omega) (by omega) GAf.out N0f.out N1f.out
      have g2 := f2.below (below_drew (Below.refl _ _))
      have g3 := f3.below (below_drew (Below.refl _ _))
      refine bodyPost_ret (results_row_row rfl _ _ w.heap.size (w.heap.size + 1) TRx TRx _ _ (0, 0) (0, 0) _ rfl g2.eq Try.underlying34 rfl (by rw [sizeRx]; rfl) rfl g3.eq (by rw [sizeRx]; rfl)) rfl ?_
      exact ⟨r, A, c, K, ck, .mk (s.kind) s.set s.kids, B, d, M, dm, rfl, ((HXf.out.keep fun b hb _ => f4 b (by omega) (by omega)).under (below_drew (Below.refl _ _))).mono fun b hb => by omega, ((HYf.out.keep fun b hb _ => f4 b (by omega) (by omega)).under (below_drew (Below.refl _ _))).mono fun b hb => by omega, hs, by rw [Rex.size]; exact hs2', below_drew f1⟩

end Go.Proofs.Ytplhbjpkkhhilaa

/- SetSame of the reference. -/
namespace Go.Proofs.Ytplhbjpkkhhilaa
set_option linter.unusedSimpArgs false
set_option linter.unusedVariables false
open Go.RowKit

end Go.Proofs.Ytplhbjpkkhhilaa

/- RexSame, of the reference and of the program. (Printed by wip/gen/rexsame.py.) -/
namespace Go.Proofs.Ytplhbjpkkhhilaa
set_option linter.unusedSimpArgs false
set_option linter.unusedVariables false
open Go.RowKit

def ISameOk (r : Rex) : Prop := ∀ (r' : Rex) (v1 v2 u1 u2 : Value) (w : World) (lo lo' : Nat), RexV w lo r (.int .i64 r.kind) v1 v2 → RexV w lo' r' (.int .i64 r'.kind) u1 u2 →
  Calls Try.prog 37 #[.agg #[.int .i64 r.kind, v1, v2], .agg #[.int .i64 r'.kind, u1, u2]] w fun e w' => e = .returned (.bool (rexEq r r')) ∧ Below w.heap.size w w'

set_option maxHeartbeats 2000000 in
theorem iRexSame_c (r : Rex) : ISameOk r := by
  refine Rex.ind (p := ISameOk) (fun k s ks ih => ?_) r
  intro r' v1 v2 u1 u2 w lo lo' h h'
  obtain ⟨k', s', ks'⟩ := r'
  obtain ⟨A, c, K, ck, _, rfl, rfl, hs, hk⟩ := h.parts
  obtain ⟨A', c', K', ck', _, rfl, rfl, hs', hk'⟩ := h'.parts
  dsimp only [Rex.kind, Rex.set, Rex.kids] at hs hk hs' hk' ⊢
  clear h h'
  obtain ⟨wa, hwa⟩ : ∃ x, x = (w.alloc (.cells #[.int .i64 k, .slice A s.length c, .slice K ks.length ck] 34)).alloc (.cells #[.int .i64 k', .slice A' s'.length c', .slice K' ks'.length ck'] 34) := ⟨_, rfl⟩
  have hb : Below w.heap.size w wa := by rw [hwa]; exact below_alloc (below_alloc (Below.refl _ _) _) _
  have m0 : Blk wa w.heap.size #[.int .i64 k, .slice A s.length c, .slice K ks.length ck] 34 := by
    rw [hwa]
    exact (blk_new w _ _).alloc _
  have m1 : Blk wa (w.heap.size + 1) #[.int .i64 k', .slice A' s'.length c', .slice K' ks'.length ck'] 34 := by
    rw [hwa]
    have := blk_new (w.alloc (.cells #[.int .i64 k, .slice A s.length c, .slice K ks.length ck] 34)) #[.int .i64 k', .slice A' s'.length c', .slice K' ks'.length ck'] 34
    simpa using this
  have HS := Lib.hid (hs.below hb)
  have HS' := Lib.hid (hs'.below hb)
  have HK := Lib.hid (hk.below hb)
  have HK' := Lib.hid (hk'.below hb)
  have hlen := hk.len
  have hlen' := hk'.len
  unfold maxN at hlen hlen'
  have HB := Lib.hid hb
  have M0 := Lib.hid m0
  have M1 := Lib.hid m1
  clear hb m0 m1 hs hs' hk hk'
  go_enter Try.func37, Try.ntmps37
  by_cases e0 : k = k'
  · subst e0
    go_wp2_with fail
    rw [← hwa]
    refine (same_c _ _ _ _ _ _ _ HS.out HS'.out).mono ?_
    rintro e w3 ⟨rfl, d3⟩
    have b3 : Below wa.heap.size wa w3 := d3.below
    have n0 : w3.cell? ⟨w.heap.size, 2, none⟩ = some (.slice K ks.length ck) := by rw [(M0.out.below b3).cell]; rfl
    have n1 : w3.cell? ⟨w.heap.size + 1, 2, none⟩ = some (.slice K' ks'.length ck') := by rw [(M1.out.below b3).cell]; rfl
    have HB3 := Lib.hid b3
    clear b3 d3
    by_cases e1 : s = s'
    · have E1 := Lib.hid e1
      rw [decide_eq_true e1]
      clear e1
      by_cases e2 : ks.length = ks'.length
      · have b1 : ((ks.length : Int) != (ks'.length : Int)) = false := by simp [e2]
        have E2 := Lib.hid e2
        clear e2
        have HWA := Lib.hid hwa
        clear hwa
        go_wp2
        go_loopg [31] (ks.length) (fun n i wr => ∃ j : Nat, j + n = ks.length ∧ i = .int .i64 j ∧ Hid (rexEqL (ks.drop j) (ks'.drop j) = rexEqL ks ks') ∧ Hid (Below wa.heap.size wa wr))
        case atStart => exact ⟨0, by omega, rfl, by rw [List.drop_zero, List.drop_zero]; rfl, HB3⟩
        case round =>
          clear n0 n1 HB3
          obtain ⟨j, hj, rfl, HQ, HW⟩ := hrel
          have n0 : wr.cell? ⟨w.heap.size, 2, none⟩ = some (.slice K ks.length ck) := by rw [(M0.out.below HW.out).cell]; rfl
          have n1 : wr.cell? ⟨w.heap.size + 1, 2, none⟩ = some (.slice K' ks'.length ck') := by rw [(M1.out.below HW.out).cell]; rfl
          by_cases hlt : j < ks.length
          · have hlt' : j < ks'.length := by have := E2.out; omega
            obtain ⟨a, r, x1, x2, rfl, HX, HD, HV, c0, c1, c2⟩ := (HK.out.below HW.out).at_ j hlt
            obtain ⟨a', r', y1, y2, rfl, HX', HD', HV', c0', c1', c2'⟩ := (HK'.out.below HW.out).at_ j hlt'
            have ST : Hid (rexEqL ks ks' = (rexEq r r' && rexEqL (ks.drop (j + 1)) (ks'.drop (j + 1)))) := by show _ = _; rw [← HQ.out, HD.out, HD'.out, rexEqL]
            have HV1 := Lib.hid (HV.out.under (below_drew (Below.refl _ _)))
            have HV2 := Lib.hid (HV'.out.under (below_drew (Below.refl _ _)))
            go_wp2
            go_still_tail 10, (by kernel_rfl)
            by_cases hq : rexEq r r' = true
            · have HE := Lib.hid hq
              clear hq
              go_wp2_with (go_at_call 37; refine (ih r (List.mem_of_getElem? HX.out) r' x1 x2 y1 y2 _ _ _ HV1.out HV2.out).mono ?_; rintro e w' ⟨rfl, hb'⟩; rw [HE.out])
              go_roundg (gk - 1)
              case rel => exact ⟨j + 1, by omega, by go_num, by rw [ST.out, HE.out]; rfl, below_then (below_drew HW.out) hb'⟩
              case measure => omega
            · have HE : Hid (rexEq r r' = false) := by show _ = _; simpa using hq
              clear hq
              go_wp2_with (go_at_call 37; refine (ih r (List.mem_of_getElem? HX.out) r' x1 x2 y1 y2 _ _ _ HV1.out HV2.out).mono ?_; rintro e w' ⟨rfl, hb'⟩; rw [HE.out])
              go_ret
              exact ⟨ret_bool (by rw [rexEq, ST.out, HE.out]; simp), below_then HB.out (below_then (below_drew HW.out) hb')⟩
          · go_wp2
            go_ret
            refine ⟨ret_bool ?_, below_then HB.out HW.out⟩
            rw [rexEq, ← HQ.out, List.drop_of_length_le (by omega), List.drop_of_length_le (by have := E2.out; omega), decide_eq_true E1.out]
            simp [rexEqL]
      · have b1 : ((ks.length : Int) != (ks'.length : Int)) = true := by simp; omega
        have b2 : (ks.length == ks'.length) = false := by simp [e2]
        have C := Lib.hid (rexEqL_len e2)
        clear e2
        go_wp2
        go_ret
        exact ⟨ret_bool (by rw [rexEq, C.out, Bool.and_false]), below_then HB.out HB3.out⟩
    · have E1 := Lib.hid e1
      rw [decide_eq_false e1]
      clear e1
      go_wp2
      go_ret
      exact ⟨ret_bool (by rw [rexEq, decide_eq_false E1.out]; simp), below_then HB.out HB3.out⟩
  · have b0 : (k != k') = true := by simp [e0]
    have E0 := Lib.hid e0
    clear e0
    go_wp2
    rw [← hwa]
    go_ret
    exact ⟨ret_bool (by rw [rexEq, decide_eq_false E0.out]; rfl), HB.out⟩

end Go.Proofs.Ytplhbjpkkhhilaa
