/- The law FnRexSame: patterns are compared exactly. -/
import Derived.Test.YtlchipjckgaclaaDoorG8
import Derived.Test.YtlchipjckgaclaaDoorG9
import Derived.Test.YtlchipjckgaclaaDoorTj
import Derived.Test.YtlchipjckgaclaaDoorTs
namespace Go.Proofs.YtlchipjckgaclaaDoor
set_option linter.unusedSimpArgs false
set_option linter.unusedVariables false
set_option maxRecDepth 100000
open Go.RowKit

namespace RS
theorem rexv_one {w : World} {lo : Nat} {r : Rex} {u1 u2 : Value} {g : Nat} (k : Int) (hb : Blk w g #[.int .i64 r.kind, u1, u2] TRx) (h : RexV w lo r (.int .i64 r.kind) u1 u2) : RexV w 0 (.mk k [] [r]) (.int .i64 k) nilS (.slice (some ⟨g, 0, none⟩) 1 1) :=
  (RexP.of (k := k) (s := []) (ks := [r]) nilSps (KidsP.mk1 hb hb.lt h.rexp)).rexv
theorem box_one {w wx : World} {lo : Nat} {r : Rex} {u1 u2 : Value} (k : Int) (h : RexV w lo r (.int .i64 r.kind) u1 u2) (hwx : wx = (w.alloc (.cells #[.int .i64 r.kind, u1, u2] TRx)).alloc (.cells #[.int .i64 k, nilS, .slice (some ⟨w.heap.size, 0, none⟩) 1 1] TRx)) :
    RexV wx 0 (.mk k [] [r]) (.int .i64 k) nilS (.slice (some ⟨w.heap.size, 0, none⟩) 1 1) ∧ Blk wx (w.heap.size + 1) #[.int .i64 k, nilS, .slice (some ⟨w.heap.size, 0, none⟩) 1 1] TRx ∧ Below w.heap.size w wx := by
  have b1 := below_alloc (Below.refl w.heap.size w) (.cells #[.int .i64 r.kind, u1, u2] TRx)
  have b2 := below_alloc (Below.refl (w.alloc (.cells #[.int .i64 r.kind, u1, u2] TRx)).heap.size (w.alloc (.cells #[.int .i64 r.kind, u1, u2] TRx))) (.cells #[.int .i64 k, nilS, .slice (some ⟨w.heap.size, 0, none⟩) 1 1] TRx)
  subst hwx
  refine ⟨(rexv_one k (blk_new w #[.int .i64 r.kind, u1, u2] TRx) (h.under b1)).under b2, ?_, below_then b1 b2⟩
  have := blk_new (w.alloc (.cells #[.int .i64 r.kind, u1, u2] TRx)) #[.int .i64 k, nilS, .slice (some ⟨w.heap.size, 0, none⟩) 1 1] TRx
  rw [show (w.alloc (.cells #[.int .i64 r.kind, u1, u2] TRx)).heap.size = w.heap.size + 1 by simp] at this
  exact this
end RS
theorem rexEq_comm (a b : Rex) : rexEq b a = rexEq a b := by
  rw [Bool.eq_iff_iff, rexEq_iff, rexEq_iff]
  exact eq_comm
theorem str_inj {a b : List UInt8} (h : str a = str b) : a = b := by
  have h1 := congrArg (fun x : ByteArray => x.data.toList) h
  simpa [str] using h1
theorem text_eq {a b : Rex} (ha : rexOk a = true) (hb : rexOk b = true) : str (rexText a) = str (rexText b) ↔ a = b := by
  constructor
  · intro h
    have h1 := str_inj h
    rw [rexText, rexText, if_pos ha, if_pos hb] at h1
    exact txt_inj (rexOk_formed ha) (rexOk_formed hb) h1
  · rintro rfl; rfl
theorem null_not {a : Rex} (h : rexOk (.mk 7 [] [a]) = true) (ha : rexOk a = true) : rexNull (.mk 7 [] [a]) = !rexNull a := by
  rw [rexNull, rexNull, h, ha]
  simp [null, nullAt]
theorem null_star {a : Rex} (h : rexOk (.mk 5 [] [a]) = true) : rexNull (.mk 5 [] [a]) = true := by
  rw [rexNull, h]
  simp [null]
set_option maxHeartbeats 8000000 in
theorem lawFnRexSame_c (A0 : Option Addr) (c0 : Nat) (bs0 : List Int) (w : World) (h0 : Bys w 0 A0 c0 bs0) (ht : Pow10 w) :
    Calls Tryd.prog 5 #[.slice A0 bs0.length c0] w fun e w' => e = .returned (.bool true) ∧ Below w.heap.size w w' := by
  have HT := Lib.hid ht
  have hl0 := h0.len
  unfold maxN at hl0
  clear ht
  go_enter Tryd.func5, Tryd.ntmps5
  by_cases hb0 : (1048576 : Int) < bs0.length
  · go_wp2
    go_ret
    exact ⟨rfl, Below.refl _ _⟩
  clear hl0
  go_wp2_with fail
  refine (drawRR_c _ _ _ _ h0).mono ?_
  rintro e w1 ⟨r, A, c, K, ck, s, B, d, M, dm, rfl, hv, hv2, hs, hs2, b1⟩
  clear hb0 h0
  go_wp2_with fail
  obtain ⟨w2, hw2⟩ : ∃ x, x = (w1.alloc (.cells #[.int .i64 r.kind, .slice A r.set.length c, .slice K r.kids.length ck] TRx)).alloc (.cells #[.int .i64 s.kind, .slice B s.set.length d, .slice M s.kids.length dm] TRx) := ⟨_, rfl⟩
  have bb : Below w1.heap.size w1 w2 := by rw [hw2]; exact below_alloc (below_alloc (Below.refl _ _) _) _
  have MX2 : Hid (Blk w2 w1.heap.size #[.int .i64 r.kind, .slice A r.set.length c, .slice K r.kids.length ck] TRx) := by rw [hw2]; exact (blk_new w1 _ _).alloc _
  have MY2 : Hid (Blk w2 (w1.heap.size + 1) #[.int .i64 s.kind, .slice B s.set.length d, .slice M s.kids.length dm] TRx) := by
    rw [hw2]
    have := blk_new (w1.alloc (.cells #[.int .i64 r.kind, .slice A r.set.length c, .slice K r.kids.length ck] TRx)) #[.int .i64 s.kind, .slice B s.set.length d, .slice M s.kids.length dm] TRx
    rw [show (w1.alloc (.cells #[.int .i64 r.kind, .slice A r.set.length c, .slice K r.kids.length ck] TRx)).heap.size = w1.heap.size + 1 by simp] at this
    exact this
  have V2 := Lib.hid (hv.rexv.under bb)
  have U2 := Lib.hid (hv2.rexv.under bb)
  have B2 := Lib.hid (below_then b1 bb)
  have hr1 : r.size ≤ 1048576 := by omega
  have hs1 : s.size ≤ 1048576 := by omega
  (try rw [← hw2])
  clear hw2 bb hv hv2 b1
  obtain ⟨q, hq⟩ : ∃ q, q = rexEq r s := ⟨_, rfl⟩
  obtain ⟨n, hn⟩ : ∃ n, n = rexNull r := ⟨_, rfl⟩
  have HQ := Lib.hid hq
  have HN := Lib.hid hn
  clear hq hn
  have C1 : Hid (∀ x : BW w2, Calls Tryd.prog 20 #[.agg #[.int .i64 r.kind, .slice A r.set.length c, .slice K r.kids.length ck], .agg #[.int .i64 s.kind, .slice B s.set.length d, .slice M s.kids.length dm]] x.w1 fun e w'' => e = .returned (.bool q) ∧ ∃ y : BW w2, w'' = y.w1) := fun x => Calls.bw (bv HQ.out.symm) (iRexSame_c r s _ _ _ _ x.w1 0 0 (V2.out.under x.up) (U2.out.under x.up))
  have C2 : Hid (∀ x : BW w2, Calls Tryd.prog 21 #[.agg #[.int .i64 r.kind, .slice A r.set.length c, .slice K r.kids.length ck], .agg #[.int .i64 s.kind, .slice B s.set.length d, .slice M s.kids.length dm]] x.w1 fun e w'' => e = .returned (.bool q) ∧ ∃ y : BW w2, w'' = y.w1) := fun x => Calls.bw (bv HQ.out.symm) (sRexSame_c r s _ _ _ _ x.w1 0 0 (V2.out.under x.up) (U2.out.under x.up))
  have C3 : Hid (∀ x : BW w2, Calls Tryd.prog 20 #[.agg #[.int .i64 r.kind, .slice A r.set.length c, .slice K r.kids.length ck], .agg #[.int .i64 r.kind, .slice A r.set.length c, .slice K r.kids.length ck]] x.w1 fun e w'' => e = .returned (.bool true) ∧ ∃ y : BW w2, w'' = y.w1) := fun x => Calls.bw (bv ((rexEq_iff r r).2 rfl)) (iRexSame_c r r _ _ _ _ x.w1 0 0 (V2.out.under x.up) (V2.out.under x.up))
  have C4 : Hid (∀ x : BW w2, Calls Tryd.prog 20 #[.agg #[.int .i64 s.kind, .slice B s.set.length d, .slice M s.kids.length dm], .agg #[.int .i64 r.kind, .slice A r.set.length c, .slice K r.kids.length ck]] x.w1 fun e w'' => e = .returned (.bool q) ∧ ∃ y : BW w2, w'' = y.w1) := fun x => Calls.bw (bv ((rexEq_comm r s).trans HQ.out.symm)) (iRexSame_c s r _ _ _ _ x.w1 0 0 (U2.out.under x.up) (V2.out.under x.up))
  have C5 : Hid (∀ x : BW w2, Calls Tryd.prog 22 #[.agg #[.int .i64 r.kind, .slice A r.set.length c, .slice K r.kids.length ck]] x.w1 fun e w'' => e = .returned (.bool n) ∧ ∃ y : BW w2, w'' = y.w1) := fun x => Calls.bw (bv HN.out.symm) (iRexNull_c r _ _ x.w1 0 (V2.out.under x.up) hr1)
  have C6 : Hid (∀ x : BW w2, Calls Tryd.prog 23 #[.agg #[.int .i64 r.kind, .slice A r.set.length c, .slice K r.kids.length ck]] x.w1 fun e w'' => e = .returned (.bool n) ∧ ∃ y : BW w2, w'' = y.w1) := fun x => Calls.bw (bv HN.out.symm) (sRexNull_c r _ _ x.w1 0 (V2.out.under x.up) hr1)
  have N1 : ∀ x : BW w2, x.w1.cell? ⟨w1.heap.size, 0, none⟩ = some (.int .i64 r.kind) := fun x => (((MX2.out).below x.up).cell 0).trans rfl
  have N1' : ∀ x : BW w2, x.w1.cell? ⟨w1.heap.size, 1, none⟩ = some (.slice A r.set.length c) := fun x => (((MX2.out).below x.up).cell 1).trans rfl
  have N1'' : ∀ x : BW w2, x.w1.cell? ⟨w1.heap.size, 2, none⟩ = some (.slice K r.kids.length ck) := fun x => (((MX2.out).below x.up).cell 2).trans rfl
  have N2 : ∀ x : BW w2, x.w1.cell? ⟨(w1.heap.size + 1), 0, none⟩ = some (.int .i64 s.kind) := fun x => (((MY2.out).below x.up).cell 0).trans rfl
  have N2' : ∀ x : BW w2, x.w1.cell? ⟨(w1.heap.size + 1), 1, none⟩ = some (.slice B s.set.length d) := fun x => (((MY2.out).below x.up).cell 1).trans rfl
  have N2'' : ∀ x : BW w2, x.w1.cell? ⟨(w1.heap.size + 1), 2, none⟩ = some (.slice M s.kids.length dm) := fun x => (((MY2.out).below x.up).cell 2).trans rfl
  go_wp2_with fail
  refine wp_region_bw (by kernel_rfl) (by kernel_rfl) ?_
  repeat (go_big_quiet_step ((first | (go_at_call 20; with_reducible exact C1.out _) | (go_at_call 20; with_reducible exact C3.out _) | (go_at_call 20; with_reducible exact C4.out _) | (go_at_call 21; with_reducible exact C2.out _) | (go_at_call 22; with_reducible exact C5.out _) | (go_at_call 23; with_reducible exact C6.out _))))
  refine wpQuiet_nil ?_
  rintro w3 ⟨x1, y1⟩
  have b3 : Below w2.heap.size w2 w3 := y1 ▸ x1.up
  clear y1 x1 N1 N1' N1'' N2 N2' N2'' C1 C2 C3 C4 C5 C6
  have MX := Lib.hid (MX2.out.below b3)
  have MY := Lib.hid (MY2.out.below b3)
  have V := Lib.hid (V2.out.under b3)
  have U := Lib.hid (U2.out.under b3)
  have BB := Lib.hid (below_then B2.out b3)
  clear MX2 MY2 V2 U2 B2 b3
  have u := ((MX.out).cell 0).trans rfl
  have u' := ((MX.out).cell 1).trans rfl
  have u'' := ((MX.out).cell 2).trans rfl
  go_wp2_with fail
  refine (sRexOk_c r _ _ w3 0 V.out hr1).mono ?_
  rintro e w4 ⟨rfl, b4⟩
  clear u u' u''
  replace MX := Lib.hid (MX.out.below b4)
  replace MY := Lib.hid (MY.out.below b4)
  replace V := Lib.hid (V.out.under b4)
  replace U := Lib.hid (U.out.under b4)
  replace BB := Lib.hid (below_then BB.out b4)
  clear b4
  have u := ((MX.out).cell 0).trans rfl
  have u' := ((MX.out).cell 1).trans rfl
  have u'' := ((MX.out).cell 2).trans rfl
  by_cases ha : rexOk r = true
  rotate_left
  · have hf : rexOk r = false := by simpa using ha
    have HNF : Hid (rexNull r = false) := by show _ = _; rw [rexNull, hf]; rfl
    have HF := Lib.hid hf
    rw [hf]
    clear hf ha
    go_wp2_with fail
    refine (sRexOk_c r _ _ w4 0 V.out hr1).mono ?_
    rintro e w5 ⟨rfl, b5⟩
    rw [HF.out]
    clear u u' u''
    replace MX := Lib.hid (MX.out.below b5)
    replace MY := Lib.hid (MY.out.below b5)
    replace V := Lib.hid (V.out.under b5)
    replace U := Lib.hid (U.out.under b5)
    replace BB := Lib.hid (below_then BB.out b5)
    clear b5
    have u := ((MX.out).cell 0).trans rfl
    have u' := ((MX.out).cell 1).trans rfl
    have u'' := ((MX.out).cell 2).trans rfl
    go_wp2_with fail
    refine (iRexNull_c r _ _ w5 0 V.out hr1).mono ?_
    rintro e w6 ⟨rfl, b6⟩
    rw [HNF.out]
    clear u u' u''
    go_wp2_with fail
    go_ret
    exact ⟨rfl, below_then BB.out b6⟩
  have HOK := Lib.hid ha
  rw [ha]
  clear ha
  have v := ((MY.out).cell 0).trans rfl
  have v' := ((MY.out).cell 1).trans rfl
  have v'' := ((MY.out).cell 2).trans rfl
  go_wp2_with fail
  refine (sRexOk_c s _ _ w4 0 U.out hs1).mono ?_
  rintro e w5 ⟨rfl, b5⟩
  clear u u' u'' v v' v''
  replace MX := Lib.hid (MX.out.below b5)
  replace MY := Lib.hid (MY.out.below b5)
  replace V := Lib.hid (V.out.under b5)
  replace U := Lib.hid (U.out.under b5)
  replace BB := Lib.hid (below_then BB.out b5)
  clear b5
  have u := ((MX.out).cell 0).trans rfl
  have u' := ((MX.out).cell 1).trans rfl
  have u'' := ((MX.out).cell 2).trans rfl
  by_cases hb : rexOk s = true
  rotate_left
  · rw [show rexOk s = false by simpa using hb]
    clear hb
    go_wp2_with fail
    refine (sRexOk_c r _ _ w5 0 V.out hr1).mono ?_
    rintro e w6 ⟨rfl, b6⟩
    rw [HOK.out]
    clear u u' u''
    go_wp2_with fail
    go_ret
    exact ⟨rfl, below_then BB.out b6⟩
  have HOKS := Lib.hid hb
  rw [hb]
  clear hb
  obtain ⟨wN, hwN⟩ : ∃ x, x = (w5.alloc (.cells #[.int .i64 r.kind, .slice A r.set.length c, .slice K r.kids.length ck] TRx)).alloc (.cells #[.int .i64 7, nilS, .slice (some ⟨w5.heap.size, 0, none⟩) 1 1] TRx) := ⟨_, rfl⟩
  obtain ⟨h7, m7, bN⟩ := RS.box_one 7 V.out hwN
  replace hwN := Lib.hid hwN.symm
  have a2 := fun o o2 => cell_alloc (cell_alloc u o) o2
  have a2' := fun o o2 => cell_alloc (cell_alloc u' o) o2
  have a2'' := fun o o2 => cell_alloc (cell_alloc u'' o) o2
  have HN7 := Lib.hid h7
  have MN7 := Lib.hid m7
  have HbN := Lib.hid bN
  clear h7 m7 bN
  go_upto_region 9 with fail
  rw [hwN.out]
  clear hwN u u' u'' a2 a2' a2''
  replace MX := Lib.hid (MX.out.below HbN.out)
  replace MY := Lib.hid (MY.out.below HbN.out)
  replace V := Lib.hid (V.out.under HbN.out)
  replace U := Lib.hid (U.out.under HbN.out)
  replace BB := Lib.hid (below_then BB.out HbN.out)
  have u := ((MX.out).cell 0).trans rfl
  have u' := ((MX.out).cell 1).trans rfl
  have u'' := ((MX.out).cell 2).trans rfl
  obtain ⟨wS, hwS⟩ : ∃ x, x = (wN.alloc (.cells #[.int .i64 r.kind, .slice A r.set.length c, .slice K r.kids.length ck] TRx)).alloc (.cells #[.int .i64 5, nilS, .slice (some ⟨wN.heap.size, 0, none⟩) 1 1] TRx) := ⟨_, rfl⟩
  obtain ⟨h5, m5, bS⟩ := RS.box_one 5 V.out hwS
  replace hwS := Lib.hid hwS.symm
  have a2 := fun o o2 => cell_alloc (cell_alloc u o) o2
  have a2' := fun o o2 => cell_alloc (cell_alloc u' o) o2
  have a2'' := fun o o2 => cell_alloc (cell_alloc u'' o) o2
  have W5 := Lib.hid h5
  have MS := Lib.hid m5
  have HbS := Lib.hid bS
  clear h5 m5 bS
  go_upto_region 10 with fail
  rw [hwS.out]
  clear hwS u u' u'' a2 a2' a2''
  replace MX := Lib.hid (MX.out.below HbS.out)
  replace MY := Lib.hid (MY.out.below HbS.out)
  replace V := Lib.hid (V.out.under HbS.out)
  replace U := Lib.hid (U.out.under HbS.out)
  replace BB := Lib.hid (below_then BB.out HbS.out)
  have W7 := Lib.hid (HN7.out.under HbS.out)
  have MN := Lib.hid (MN7.out.below HbS.out)
  clear HN7 MN7 HbN HbS
  have hz7 : (Rex.mk 7 [] [r]).size ≤ 1048576 := by simp [Rex.size, sizeL]; omega
  have hz5 : (Rex.mk 5 [] [r]).size ≤ 1048576 := by simp [Rex.size, sizeL]; omega
  obtain ⟨tr, htr⟩ : ∃ t, t = str (rexText r) := ⟨_, rfl⟩
  obtain ⟨ts, hts⟩ : ∃ t, t = str (rexText s) := ⟨_, rfl⟩
  have HTR := Lib.hid htr
  have HTS := Lib.hid hts
  have HEQ : Hid (tr = ts ↔ q = true) := by show _ ↔ _; rw [htr, hts, text_eq HOK.out HOKS.out, HQ.out, rexEq_iff]
  clear htr hts
  obtain ⟨o, ho⟩ : ∃ o, o = rexOk (.mk 7 [] [r]) := ⟨_, rfl⟩
  have HO := Lib.hid ho
  clear ho
  have D1 : Hid (∀ x : BW wS, Calls Tryd.prog 20 #[.agg #[.int .i64 r.kind, .slice A r.set.length c, .slice K r.kids.length ck], .agg #[.int .i64 s.kind, .slice B s.set.length d, .slice M s.kids.length dm]] x.w1 fun e w'' => e = .returned (.bool q) ∧ ∃ y : BW wS, w'' = y.w1) := fun x => Calls.bw (bv HQ.out.symm) (iRexSame_c r s _ _ _ _ x.w1 0 0 (V.out.under x.up) (U.out.under x.up))
  have D2 : Hid (∀ x : BW wS, Calls Tryd.prog 17 #[.agg #[.int .i64 r.kind, .slice A r.set.length c, .slice K r.kids.length ck]] x.w1 fun e w'' => e = .returned (.string tr) ∧ ∃ y : BW wS, w'' = y.w1) := fun x => Calls.bw (congrArg Value.string HTR.out.symm) (iRexText_c r _ _ x.w1 0 (V.out.under x.up) hr1 (HT.out.below (below_then BB.out x.up)))
  have D3 : Hid (∀ x : BW wS, Calls Tryd.prog 17 #[.agg #[.int .i64 s.kind, .slice B s.set.length d, .slice M s.kids.length dm]] x.w1 fun e w'' => e = .returned (.string ts) ∧ ∃ y : BW wS, w'' = y.w1) := fun x => Calls.bw (congrArg Value.string HTS.out.symm) (iRexText_c s _ _ x.w1 0 (U.out.under x.up) hs1 (HT.out.below (below_then BB.out x.up)))
  have D4 : Hid (∀ x : BW wS, Calls Tryd.prog 25 #[.agg #[.int .i64 7, nilS, .slice (some ⟨w5.heap.size, 0, none⟩) 1 1]] x.w1 fun e w'' => e = .returned (.bool o) ∧ ∃ y : BW wS, w'' = y.w1) := fun x => Calls.bw (bv HO.out.symm) (iRexOk_c (.mk 7 [] [r]) _ _ x.w1 0 (W7.out.under x.up) hz7)
  have D6 : Hid (∀ x : BW wS, Calls Tryd.prog 22 #[.agg #[.int .i64 r.kind, .slice A r.set.length c, .slice K r.kids.length ck]] x.w1 fun e w'' => e = .returned (.bool n) ∧ ∃ y : BW wS, w'' = y.w1) := fun x => Calls.bw (bv HN.out.symm) (iRexNull_c r _ _ x.w1 0 (V.out.under x.up) hr1)
  have D7 : Hid (∀ x : BW wS, Calls Tryd.prog 25 #[.agg #[.int .i64 5, nilS, .slice (some ⟨wN.heap.size, 0, none⟩) 1 1]] x.w1 fun e w'' => e = .returned (.bool o) ∧ ∃ y : BW wS, w'' = y.w1) := fun x => Calls.bw (bv HO.out.symm) (iRexOk_c (.mk 5 [] [r]) _ _ x.w1 0 (W5.out.under x.up) hz5)
  have D5 : Hid (o = true → ∀ x : BW wS, Calls Tryd.prog 22 #[.agg #[.int .i64 7, nilS, .slice (some ⟨w5.heap.size, 0, none⟩) 1 1]] x.w1 fun e w'' => e = .returned (.bool (!n)) ∧ ∃ y : BW wS, w'' = y.w1) := fun e x => Calls.bw (bv ((null_not (HO.out.symm.trans e) HOK.out).trans (by rw [HN.out]))) (iRexNull_c (.mk 7 [] [r]) _ _ x.w1 0 (W7.out.under x.up) hz7)
  have D8 : Hid (o = true → ∀ x : BW wS, Calls Tryd.prog 22 #[.agg #[.int .i64 5, nilS, .slice (some ⟨wN.heap.size, 0, none⟩) 1 1]] x.w1 fun e w'' => e = .returned (.bool true) ∧ ∃ y : BW wS, w'' = y.w1) := fun e x => Calls.bw (bv (null_star (HO.out.symm.trans e))) (iRexNull_c (.mk 5 [] [r]) _ _ x.w1 0 (W5.out.under x.up) hz5)
  clear hz7 hz5 HTR HTS HQ HN HO HOK HOKS W5 W7 V U HT
  have hs' := hs
  cases q with
  | true =>
    have e : tr = ts := HEQ.out.2 rfl
    subst e
    clear HEQ
    cases o with
    | true =>
      replace D5 := Lib.hid (D5.out rfl)
      replace D8 := Lib.hid (D8.out rfl)
      have N1 : ∀ x : BW wS, x.w1.cell? ⟨w1.heap.size, 0, none⟩ = some (.int .i64 r.kind) := fun x => (((MX.out).below x.up).cell 0).trans rfl
      have N1' : ∀ x : BW wS, x.w1.cell? ⟨w1.heap.size, 1, none⟩ = some (.slice A r.set.length c) := fun x => (((MX.out).below x.up).cell 1).trans rfl
      have N1'' : ∀ x : BW wS, x.w1.cell? ⟨w1.heap.size, 2, none⟩ = some (.slice K r.kids.length ck) := fun x => (((MX.out).below x.up).cell 2).trans rfl
      have N2 : ∀ x : BW wS, x.w1.cell? ⟨(w1.heap.size + 1), 0, none⟩ = some (.int .i64 s.kind) := fun x => (((MY.out).below x.up).cell 0).trans rfl
      have N2' : ∀ x : BW wS, x.w1.cell? ⟨(w1.heap.size + 1), 1, none⟩ = some (.slice B s.set.length d) := fun x => (((MY.out).below x.up).cell 1).trans rfl
      have N2'' : ∀ x : BW wS, x.w1.cell? ⟨(w1.heap.size + 1), 2, none⟩ = some (.slice M s.kids.length dm) := fun x => (((MY.out).below x.up).cell 2).trans rfl
      have N3 : ∀ x : BW wS, x.w1.cell? ⟨(w5.heap.size + 1), 0, none⟩ = some (.int .i64 7) := fun x => (((MN.out).below x.up).cell 0).trans rfl
      have N3' : ∀ x : BW wS, x.w1.cell? ⟨(w5.heap.size + 1), 1, none⟩ = some (nilS) := fun x => (((MN.out).below x.up).cell 1).trans rfl
      have N3'' : ∀ x : BW wS, x.w1.cell? ⟨(w5.heap.size + 1), 2, none⟩ = some (.slice (some ⟨w5.heap.size, 0, none⟩) 1 1) := fun x => (((MN.out).below x.up).cell 2).trans rfl
      have N4 : ∀ x : BW wS, x.w1.cell? ⟨(wN.heap.size + 1), 0, none⟩ = some (.int .i64 5) := fun x => (((MS.out).below x.up).cell 0).trans rfl
      have N4' : ∀ x : BW wS, x.w1.cell? ⟨(wN.heap.size + 1), 1, none⟩ = some (nilS) := fun x => (((MS.out).below x.up).cell 1).trans rfl
      have N4'' : ∀ x : BW wS, x.w1.cell? ⟨(wN.heap.size + 1), 2, none⟩ = some (.slice (some ⟨wN.heap.size, 0, none⟩) 1 1) := fun x => (((MS.out).below x.up).cell 2).trans rfl
      go_wp2_with fail
      refine wp_region_bw (by kernel_rfl) (by kernel_rfl) ?_
      repeat (go_big_quiet_step ((first | (go_at_call 20; with_reducible exact D1.out _) | (go_at_call 17; with_reducible exact D2.out _) | (go_at_call 17; with_reducible exact D3.out _) | (go_at_call 25; with_reducible exact D4.out _) | (go_at_call 22; with_reducible exact D5.out _) | (go_at_call 22; with_reducible exact D6.out _) | (go_at_call 25; with_reducible exact D7.out _) | (go_at_call 22; with_reducible exact D8.out _))))
      refine wpQuiet_nil ?_
      rintro w8 ⟨x1, y1⟩
      have b8 : Below wS.heap.size wS w8 := y1 ▸ x1.up
      clear y1 x1 N1 N1' N1'' N2 N2' N2'' N3 N3' N3'' N4 N4' N4''
      go_wp2_with fail
      go_ret
      exact ⟨by first | rfl | (simp; done) | (cases n <;> rfl), below_then BB.out b8⟩
    | false =>
      clear D5 D8
      have D5 := D6
      have D8 := D6
      have N1 : ∀ x : BW wS, x.w1.cell? ⟨w1.heap.size, 0, none⟩ = some (.int .i64 r.kind) := fun x => (((MX.out).below x.up).cell 0).trans rfl
      have N1' : ∀ x : BW wS, x.w1.cell? ⟨w1.heap.size, 1, none⟩ = some (.slice A r.set.length c) := fun x => (((MX.out).below x.up).cell 1).trans rfl
      have N1'' : ∀ x : BW wS, x.w1.cell? ⟨w1.heap.size, 2, none⟩ = some (.slice K r.kids.length ck) := fun x => (((MX.out).below x.up).cell 2).trans rfl
      have N2 : ∀ x : BW wS, x.w1.cell? ⟨(w1.heap.size + 1), 0, none⟩ = some (.int .i64 s.kind) := fun x => (((MY.out).below x.up).cell 0).trans rfl
      have N2' : ∀ x : BW wS, x.w1.cell? ⟨(w1.heap.size + 1), 1, none⟩ = some (.slice B s.set.length d) := fun x => (((MY.out).below x.up).cell 1).trans rfl
      have N2'' : ∀ x : BW wS, x.w1.cell? ⟨(w1.heap.size + 1), 2, none⟩ = some (.slice M s.kids.length dm) := fun x => (((MY.out).below x.up).cell 2).trans rfl
      have N3 : ∀ x : BW wS, x.w1.cell? ⟨(w5.heap.size + 1), 0, none⟩ = some (.int .i64 7) := fun x => (((MN.out).below x.up).cell 0).trans rfl
      have N3' : ∀ x : BW wS, x.w1.cell? ⟨(w5.heap.size + 1), 1, none⟩ = some (nilS) := fun x => (((MN.out).below x.up).cell 1).trans rfl
      have N3'' : ∀ x : BW wS, x.w1.cell? ⟨(w5.heap.size + 1), 2, none⟩ = some (.slice (some ⟨w5.heap.size, 0, none⟩) 1 1) := fun x => (((MN.out).below x.up).cell 2).trans rfl
      have N4 : ∀ x : BW wS, x.w1.cell? ⟨(wN.heap.size + 1), 0, none⟩ = some (.int .i64 5) := fun x => (((MS.out).below x.up).cell 0).trans rfl
      have N4' : ∀ x : BW wS, x.w1.cell? ⟨(wN.heap.size + 1), 1, none⟩ = some (nilS) := fun x => (((MS.out).below x.up).cell 1).trans rfl
      have N4'' : ∀ x : BW wS, x.w1.cell? ⟨(wN.heap.size + 1), 2, none⟩ = some (.slice (some ⟨wN.heap.size, 0, none⟩) 1 1) := fun x => (((MS.out).below x.up).cell 2).trans rfl
      go_wp2_with fail
      refine wp_region_bw (by kernel_rfl) (by kernel_rfl) ?_
      repeat (go_big_quiet_step ((first | (go_at_call 20; with_reducible exact D1.out _) | (go_at_call 17; with_reducible exact D2.out _) | (go_at_call 17; with_reducible exact D3.out _) | (go_at_call 25; with_reducible exact D4.out _) | (go_at_call 22; with_reducible exact D5.out _) | (go_at_call 22; with_reducible exact D6.out _) | (go_at_call 25; with_reducible exact D7.out _) | (go_at_call 22; with_reducible exact D8.out _))))
      refine wpQuiet_nil ?_
      rintro w8 ⟨x1, y1⟩
      have b8 : Below wS.heap.size wS w8 := y1 ▸ x1.up
      clear y1 x1 N1 N1' N1'' N2 N2' N2'' N3 N3' N3'' N4 N4' N4''
      go_wp2_with fail
      go_ret
      exact ⟨by first | rfl | (simp; done) | (cases n <;> rfl), below_then BB.out b8⟩
  | false =>
    have hne : ¬ tr = ts := fun e => by have := HEQ.out.1 e; cases this
    have hnl : ¬ tr.toList = ts.toList := fun e => hne (by
      rw [ByteArray.toList_eq, ByteArray.toList_eq] at e
      exact ByteArray.ext (Array.toList_inj.1 e))
    have e1 : (tr.toList == ts.toList) = false := beq_eq_false_iff_ne.2 hnl
    have e2 : decide (tr.toList = ts.toList) = false := decide_eq_false hnl
    clear HEQ hne
    cases o with
    | true =>
      replace D5 := Lib.hid (D5.out rfl)
      replace D8 := Lib.hid (D8.out rfl)
      have N1 : ∀ x : BW wS, x.w1.cell? ⟨w1.heap.size, 0, none⟩ = some (.int .i64 r.kind) := fun x => (((MX.out).below x.up).cell 0).trans rfl
      have N1' : ∀ x : BW wS, x.w1.cell? ⟨w1.heap.size, 1, none⟩ = some (.slice A r.set.length c) := fun x => (((MX.out).below x.up).cell 1).trans rfl
      have N1'' : ∀ x : BW wS, x.w1.cell? ⟨w1.heap.size, 2, none⟩ = some (.slice K r.kids.length ck) := fun x => (((MX.out).below x.up).cell 2).trans rfl
      have N2 : ∀ x : BW wS, x.w1.cell? ⟨(w1.heap.size + 1), 0, none⟩ = some (.int .i64 s.kind) := fun x => (((MY.out).below x.up).cell 0).trans rfl
      have N2' : ∀ x : BW wS, x.w1.cell? ⟨(w1.heap.size + 1), 1, none⟩ = some (.slice B s.set.length d) := fun x => (((MY.out).below x.up).cell 1).trans rfl
      have N2'' : ∀ x : BW wS, x.w1.cell? ⟨(w1.heap.size + 1), 2, none⟩ = some (.slice M s.kids.length dm) := fun x => (((MY.out).below x.up).cell 2).trans rfl
      have N3 : ∀ x : BW wS, x.w1.cell? ⟨(w5.heap.size + 1), 0, none⟩ = some (.int .i64 7) := fun x => (((MN.out).below x.up).cell 0).trans rfl
      have N3' : ∀ x : BW wS, x.w1.cell? ⟨(w5.heap.size + 1), 1, none⟩ = some (nilS) := fun x => (((MN.out).below x.up).cell 1).trans rfl
      have N3'' : ∀ x : BW wS, x.w1.cell? ⟨(w5.heap.size + 1), 2, none⟩ = some (.slice (some ⟨w5.heap.size, 0, none⟩) 1 1) := fun x => (((MN.out).below x.up).cell 2).trans rfl
      have N4 : ∀ x : BW wS, x.w1.cell? ⟨(wN.heap.size + 1), 0, none⟩ = some (.int .i64 5) := fun x => (((MS.out).below x.up).cell 0).trans rfl
      have N4' : ∀ x : BW wS, x.w1.cell? ⟨(wN.heap.size + 1), 1, none⟩ = some (nilS) := fun x => (((MS.out).below x.up).cell 1).trans rfl
      have N4'' : ∀ x : BW wS, x.w1.cell? ⟨(wN.heap.size + 1), 2, none⟩ = some (.slice (some ⟨wN.heap.size, 0, none⟩) 1 1) := fun x => (((MS.out).below x.up).cell 2).trans rfl
      go_wp2_with fail
      refine wp_region_bw (by kernel_rfl) (by kernel_rfl) ?_
      repeat (go_big_quiet_step ((first | (go_at_call 20; with_reducible exact D1.out _) | (go_at_call 17; with_reducible exact D2.out _) | (go_at_call 17; with_reducible exact D3.out _) | (go_at_call 25; with_reducible exact D4.out _) | (go_at_call 22; with_reducible exact D5.out _) | (go_at_call 22; with_reducible exact D6.out _) | (go_at_call 25; with_reducible exact D7.out _) | (go_at_call 22; with_reducible exact D8.out _))))
      refine wpQuiet_nil ?_
      rintro w8 ⟨x1, y1⟩
      have b8 : Below wS.heap.size wS w8 := y1 ▸ x1.up
      clear y1 x1 N1 N1' N1'' N2 N2' N2'' N3 N3' N3'' N4 N4' N4''
      go_wp2_with fail
      go_ret
      exact ⟨by first | rfl | (simp; done) | (cases n <;> rfl), below_then BB.out b8⟩
    | false =>
      clear D5 D8
      have D5 := D6
      have D8 := D6
      have N1 : ∀ x : BW wS, x.w1.cell? ⟨w1.heap.size, 0, none⟩ = some (.int .i64 r.kind) := fun x => (((MX.out).below x.up).cell 0).trans rfl
      have N1' : ∀ x : BW wS, x.w1.cell? ⟨w1.heap.size, 1, none⟩ = some (.slice A r.set.length c) := fun x => (((MX.out).below x.up).cell 1).trans rfl
      have N1'' : ∀ x : BW wS, x.w1.cell? ⟨w1.heap.size, 2, none⟩ = some (.slice K r.kids.length ck) := fun x => (((MX.out).below x.up).cell 2).trans rfl
      have N2 : ∀ x : BW wS, x.w1.cell? ⟨(w1.heap.size + 1), 0, none⟩ = some (.int .i64 s.kind) := fun x => (((MY.out).below x.up).cell 0).trans rfl
      have N2' : ∀ x : BW wS, x.w1.cell? ⟨(w1.heap.size + 1), 1, none⟩ = some (.slice B s.set.length d) := fun x => (((MY.out).below x.up).cell 1).trans rfl
      have N2'' : ∀ x : BW wS, x.w1.cell? ⟨(w1.heap.size + 1), 2, none⟩ = some (.slice M s.kids.length dm) := fun x => (((MY.out).below x.up).cell 2).trans rfl
      have N3 : ∀ x : BW wS, x.w1.cell? ⟨(w5.heap.size + 1), 0, none⟩ = some (.int .i64 7) := fun x => (((MN.out).below x.up).cell 0).trans rfl
      have N3' : ∀ x : BW wS, x.w1.cell? ⟨(w5.heap.size + 1), 1, none⟩ = some (nilS) := fun x => (((MN.out).below x.up).cell 1).trans rfl
      have N3'' : ∀ x : BW wS, x.w1.cell? ⟨(w5.heap.size + 1), 2, none⟩ = some (.slice (some ⟨w5.heap.size, 0, none⟩) 1 1) := fun x => (((MN.out).below x.up).cell 2).trans rfl
      have N4 : ∀ x : BW wS, x.w1.cell? ⟨(wN.heap.size + 1), 0, none⟩ = some (.int .i64 5) := fun x => (((MS.out).below x.up).cell 0).trans rfl
      have N4' : ∀ x : BW wS, x.w1.cell? ⟨(wN.heap.size + 1), 1, none⟩ = some (nilS) := fun x => (((MS.out).below x.up).cell 1).trans rfl
      have N4'' : ∀ x : BW wS, x.w1.cell? ⟨(wN.heap.size + 1), 2, none⟩ = some (.slice (some ⟨wN.heap.size, 0, none⟩) 1 1) := fun x => (((MS.out).below x.up).cell 2).trans rfl
      go_wp2_with fail
      refine wp_region_bw (by kernel_rfl) (by kernel_rfl) ?_
      repeat (go_big_quiet_step ((first | (go_at_call 20; with_reducible exact D1.out _) | (go_at_call 17; with_reducible exact D2.out _) | (go_at_call 17; with_reducible exact D3.out _) | (go_at_call 25; with_reducible exact D4.out _) | (go_at_call 22; with_reducible exact D5.out _) | (go_at_call 22; with_reducible exact D6.out _) | (go_at_call 25; with_reducible exact D7.out _) | (go_at_call 22; with_reducible exact D8.out _))))
      refine wpQuiet_nil ?_
      rintro w8 ⟨x1, y1⟩
      have b8 : Below wS.heap.size wS w8 := y1 ▸ x1.up
      clear y1 x1 N1 N1' N1'' N2 N2' N2'' N3 N3' N3'' N4 N4' N4''
      go_wp2_with fail
      go_ret
      exact ⟨by first | rfl | (simp; done) | (cases n <;> rfl), below_then BB.out b8⟩

end Go.Proofs.YtlchipjckgaclaaDoor
