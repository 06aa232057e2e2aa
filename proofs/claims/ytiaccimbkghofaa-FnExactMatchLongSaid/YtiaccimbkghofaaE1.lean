/- l3Cat, l3Star: of what their parts are like. -/
import Derived.Test.YtiaccimbkghofaaMat
import Derived.Test.YtiaccimbkghofaaT10
import Derived.Test.YtiaccimbkghofaaBw
import Derived.Lib.Strings
import Derived.Lib.IndexBytes
import Derived.WalkSpells
namespace Go.Proofs.Ytiaccimbkghofaa
set_option linter.unusedSimpArgs false
set_option linter.unusedVariables false
open Go.RowKit

def LangOk (r : Rex) : Prop := ∀ (d : Nat) (t : ByteArray) (v1 v2 : Value) (w : World) (lo : Nat), formed d r = true → t.size ≤ 1000 → RexV w lo r (.int .i64 r.kind) v1 v2 →
  Calls Try.prog 76 #[.agg #[.int .i64 r.kind, v1, v2], .string t] w fun e w' => e = .returned (.bool (lang r t.data.toList)) ∧ Below w.heap.size w w'
theorem ext_take (t : ByteArray) (k : Nat) : (t.extract 0 k).data.toList = t.data.toList.take k := by rw [Go.Lib.extract_data]; simp
theorem ext_drop (t : ByteArray) (k : Nat) : (t.extract k t.size).data.toList = t.data.toList.drop k := Go.Lib.extract_to_end t k
theorem ext_size (t : ByteArray) (a b : Nat) : (t.extract a b).size ≤ t.size := by rw [ByteArray.size_extract]; omega
theorem tl_len (t : ByteArray) : t.data.toList.length = t.size := by rw [Array.length_toList]; rfl

theorem LangOk.bw {r : Rex} (h : LangOk r) {W : World} {x : BW W} {d : Nat} {t : ByteArray} {v1 v2 : Value} {lo : Nat} {g : Bool} (hf : formed d r = true) (ht : t.size ≤ 1000) (hv : RexV x.w1 lo r (.int .i64 r.kind) v1 v2) (hg : lang r t.data.toList = g) :
    Calls Try.prog 76 #[.agg #[.int .i64 r.kind, v1, v2], .string t] x.w1 fun e w'' => e = .returned (.bool g) ∧ ∃ y : BW W, w'' = y.w1 := Calls.bw (bv hg) (h d t v1 v2 _ lo hf ht hv)
set_option maxRecDepth 100000 in
set_option maxHeartbeats 4000000 in
theorem l3Cat_of (a b : Rex) (iha : LangOk a) (ihb : LangOk b) (d : Nat) (t : ByteArray) (v1 v2 u1 u2 : Value) (w : World) (lo : Nat) (hfa : formed d a = true) (hfb : formed d b = true) (ht : t.size ≤ 1000) (h : RexV w lo a (.int .i64 a.kind) v1 v2) (h' : RexV w lo b (.int .i64 b.kind) u1 u2) :
    Calls Try.prog 95 #[.agg #[.int .i64 a.kind, v1, v2], .agg #[.int .i64 b.kind, u1, u2], .string t] w fun e w' => e = .returned (.bool (catB (lang a) (lang b) t.data.toList)) ∧ Below w.heap.size w w' := by
  obtain ⟨A1, c1, K1, k1, _, rfl, rfl, _, _⟩ := h.parts
  obtain ⟨A2, c2, K2, k2, _, rfl, rfl, _, _⟩ := h'.parts
  obtain ⟨wa, hwa⟩ : ∃ x, x = (w.alloc (.cells #[.int .i64 a.kind, .slice A1 a.set.length c1, .slice K1 a.kids.length k1] 31)).alloc (.cells #[.int .i64 b.kind, .slice A2 b.set.length c2, .slice K2 b.kids.length k2] 31) := ⟨_, rfl⟩
  have hb : Below w.heap.size w wa := by rw [hwa]; exact below_alloc (below_alloc (Below.refl _ _) _) _
  have m0 : Blk wa w.heap.size #[.int .i64 a.kind, .slice A1 a.set.length c1, .slice K1 a.kids.length k1] 31 := by rw [hwa]; exact (blk_new w _ _).alloc _
  have m1 : Blk wa (w.heap.size + 1) #[.int .i64 b.kind, .slice A2 b.set.length c2, .slice K2 b.kids.length k2] 31 := by
    rw [hwa]
    have := blk_new (w.alloc (.cells #[.int .i64 a.kind, .slice A1 a.set.length c1, .slice K1 a.kids.length k1] 31)) #[.int .i64 b.kind, .slice A2 b.set.length c2, .slice K2 b.kids.length k2] 31
    simpa using this
  replace hwa := hwa.symm
  have HB := Lib.hid hb
  have M0 := Lib.hid m0
  have M1 := Lib.hid m1
  have HA := Lib.hid (h.under hb)
  have HB' := Lib.hid (h'.under hb)
  have HFA := Lib.hid hfa
  have HFB := Lib.hid hfb
  have HT := Lib.hid (tl_len t)
  clear hb m0 m1 h h' hfa hfb
  go_enter Try.func95, Try.ntmps95
  go_wp2
  clear hwa
  go_loopg [7] (t.size + 1) (fun n i wr => ∃ k : Nat, k + n = t.size + 1 ∧ i = .int .i64 k ∧ Hid (catGo (lang a) (lang b) t.data.toList n k = catB (lang a) (lang b) t.data.toList) ∧ Hid (Below wa.heap.size wa wr))
  case atStart => exact ⟨0, by omega, rfl, by show _ = _; rw [catB, HT.out], Below.refl _ _⟩
  case round =>
    obtain ⟨k, hk, rfl, HC, HW⟩ := hrel
    by_cases hlt : k ≤ t.size
    · obtain ⟨m, rfl⟩ : ∃ m, gk = m + 1 := ⟨gk - 1, by omega⟩
      have N0 : ∀ x : BW wr, x.w1.cell? ⟨w.heap.size, 0, none⟩ = some (.int .i64 a.kind) := fun x => by rw [(M0.out.below (below_then HW.out x.up)).cell]; rfl
      have N1 : ∀ x : BW wr, x.w1.cell? ⟨w.heap.size, 1, none⟩ = some (.slice A1 a.set.length c1) := fun x => by rw [(M0.out.below (below_then HW.out x.up)).cell]; rfl
      have N2 : ∀ x : BW wr, x.w1.cell? ⟨w.heap.size, 2, none⟩ = some (.slice K1 a.kids.length k1) := fun x => by rw [(M0.out.below (below_then HW.out x.up)).cell]; rfl
      have P0 : ∀ x : BW wr, x.w1.cell? ⟨w.heap.size + 1, 0, none⟩ = some (.int .i64 b.kind) := fun x => by rw [(M1.out.below (below_then HW.out x.up)).cell]; rfl
      have P1 : ∀ x : BW wr, x.w1.cell? ⟨w.heap.size + 1, 1, none⟩ = some (.slice A2 b.set.length c2) := fun x => by rw [(M1.out.below (below_then HW.out x.up)).cell]; rfl
      have P2 : ∀ x : BW wr, x.w1.cell? ⟨w.heap.size + 1, 2, none⟩ = some (.slice K2 b.kids.length k2) := fun x => by rw [(M1.out.below (below_then HW.out x.up)).cell]; rfl
      have RA : Hid (∀ x : BW wr, RexV x.w1 lo a (.int .i64 a.kind) (.slice A1 a.set.length c1) (.slice K1 a.kids.length k1)) := fun x => HA.out.under (below_then HW.out x.up)
      have RB : Hid (∀ x : BW wr, RexV x.w1 lo b (.int .i64 b.kind) (.slice A2 b.set.length c2) (.slice K2 b.kids.length k2)) := fun x => HB'.out.under (below_then HW.out x.up)
      have i0 : (0 : Int) ≤ (k : Int) := by omega
      have i1 : (k : Int) ≤ (t.size : Int) := by omega
      have ET := Lib.hid (ext_take t k)
      have ED := Lib.hid (ext_drop t k)
      have ES1 := ext_size t 0 k
      have ES2 := ext_size t k t.size
      by_cases ga : lang a (t.data.toList.take k) = true
      · have GA : Hid (lang a (t.extract 0 k).data.toList = true) := by show _ = _; rw [ET.out]; exact ga
        have GA' := Lib.hid ga
        clear ga
        by_cases gb : lang b (t.data.toList.drop k) = true
        · have GB : Hid (lang b (t.extract k t.size).data.toList = true) := by show _ = _; rw [ED.out]; exact gb
          have GB' := Lib.hid gb
          clear gb
          go_wp2
          refine wp_region_bw (by kernel_rfl) (by kernel_rfl) ?_
          repeat (go_big_quiet_step ((first | (go_at_call 76; with_reducible exact iha.bw HFA.out (by omega) (RA.out _) GA.out) | (go_at_call 76; with_reducible exact ihb.bw HFB.out (by omega) (RB.out _) GB.out))))
          refine wpQuiet_nil ?_
          rintro w1 ⟨x1, y1⟩
          have b1 : Below wr.heap.size wr w1 := y1 ▸ x1.up
          clear y1 x1 N0 N1 N2 P0 P1 P2 ES1 ES2 i0 i1
          go_wp2
          go_ret
          exact ⟨ret_bool (by rw [← HC.out, catGo, GA'.out, GB'.out]; rfl), below_then HB.out (below_then HW.out b1)⟩
        · have gb' : lang b (t.data.toList.drop k) = false := by simpa using gb
          have GB : Hid (lang b (t.extract k t.size).data.toList = false) := by show _ = _; rw [ED.out]; exact gb'
          have GB' := Lib.hid gb'
          clear gb gb'
          go_wp2
          refine wp_region_bw (by kernel_rfl) (by kernel_rfl) ?_
          repeat (go_big_quiet_step ((first | (go_at_call 76; with_reducible exact iha.bw HFA.out (by omega) (RA.out _) GA.out) | (go_at_call 76; with_reducible exact ihb.bw HFB.out (by omega) (RB.out _) GB.out))))
          refine wpQuiet_nil ?_
          rintro w1 ⟨x1, y1⟩
          have b1 : Below wr.heap.size wr w1 := y1 ▸ x1.up
          clear y1 x1 N0 N1 N2 P0 P1 P2 ES1 ES2 i0 i1
          go_wp2
          go_roundg m
          case rel => exact ⟨k + 1, by omega, by go_num, by have := HC.out; rw [catGo, GA'.out, GB'.out] at this; exact this, below_then HW.out b1⟩
          case measure => omega
      · have ga' : lang a (t.data.toList.take k) = false := by simpa using ga
        have GA : Hid (lang a (t.extract 0 k).data.toList = false) := by show _ = _; rw [ET.out]; exact ga'
        have GA' := Lib.hid ga'
        have GB : Hid (lang b (t.extract k t.size).data.toList = lang b (t.extract k t.size).data.toList) := rfl
        clear ga ga'
        go_wp2
        refine wp_region_bw (by kernel_rfl) (by kernel_rfl) ?_
        repeat (go_big_quiet_step ((first | (go_at_call 76; with_reducible exact iha.bw HFA.out (by omega) (RA.out _) GA.out) | (go_at_call 76; with_reducible exact ihb.bw HFB.out (by omega) (RB.out _) GB.out))))
        refine wpQuiet_nil ?_
        rintro w1 ⟨x1, y1⟩
        have b1 : Below wr.heap.size wr w1 := y1 ▸ x1.up
        clear y1 x1 N0 N1 N2 P0 P1 P2 ES1 ES2 i0 i1
        go_wp2
        go_roundg m
        case rel => exact ⟨k + 1, by omega, by go_num, by have := HC.out; rw [catGo, GA'.out] at this; exact this, below_then HW.out b1⟩
        case measure => omega
    · go_wp2
      go_ret
      obtain rfl : gk = 0 := by omega
      exact ⟨ret_bool (by rw [← HC.out]; rfl), below_then HB.out HW.out⟩

end Go.Proofs.Ytiaccimbkghofaa
