/- The law FnNormOne: star and complement simplify exactly. -/
import Derived.Test.YtplhbjpkkhhilaaMl4
import Derived.Test.YtplhbjpkkhhilaaG10
import Derived.Test.YtplhbjpkkhhilaaG12
import Derived.Deep.RegionHeld3
namespace Go.Proofs.Ytplhbjpkkhhilaa
set_option linter.unusedSimpArgs false
set_option linter.unusedVariables false
open Go.RowKit

section
variable {P : Program} {w : World}
theorem step_call_w {ops : Array Oper} {o : Oper} {a : Act} {K : Act → World → Prop} {Q : Exit → Act → World → Prop} {E : Prop} (f : FuncId) (xs : Array Operand) (ts : Array TypeId)
    (ho : o.op = .call { callee := .value (.func f), args := xs, argTypes := ts }) (fn : Func) (hf : P.funcs[f]? = some fn) (hname : (fn.name == "runtime.NumGoroutine") = false) (hb : fn.body.isNone = false)
    (vals : Array Value) (hv : xs.toList.map a.eval = vals.toList) {R : Value → World → Prop} (hc : Calls P f vals w fun e w' => ∃ v, e = .returned v ∧ R v w')
    (h : ∀ v w', R v w' → K (a.put o.dst v) w') (hw : Region.wanted o (yielded ops a.tmps) = true) : if Region.wanted o (yielded ops a.tmps) = true then Oper.wp P o a w K Q else E := by
  rw [if_pos hw]
  have h1 : ¬ fn.name = "runtime.NumGoroutine" := by simpa using hname
  have h2 : ¬ fn.body = none := by cases hx : fn.body <;> simp_all
  have hrun : (execOp a.eval o).run P w = .ok (.enter f vals) w := by
    have hv' : xs.map a.eval = vals := Array.toList_inj.1 (by rw [Array.toList_map]; exact hv)
    rw [← hv']
    unfold execOp
    simp [ho, resolve, Deferred.ofValue, invoke, callFunc, hf, h1, h2, Act.eval]
  unfold Oper.wp
  rw [hrun, Oper.upon_enter]
  refine hc.mono ?_
  rintro e w' ⟨v, rfl, hr⟩
  exact h v w' hr
end
theorem bool_v {P : Program} {f : FuncId} {args : Array Value} {w : World} {b : Bool} (h : Calls P f args w fun e w' => e = .returned (.bool b) ∧ Below w.heap.size w w') : Calls P f args w fun e w' => ∃ v, e = .returned v ∧ v = .bool b ∧ Below w.heap.size w w' :=
  h.mono fun e w' ⟨h1, h2⟩ => ⟨_, h1, rfl, h2⟩
theorem tree_v {P : Program} {f : FuncId} {args : Array Value} {w : World} {t : Rex} (h : Calls P f args w (TreeOut t w)) : Calls P f args w fun e w' => ∃ v, e = .returned v ∧ ∃ A c K ck, v = .agg #[.int .i64 t.kind, .slice A t.set.length c, .slice K t.kids.length ck] ∧ RexV w' 0 t (.int .i64 t.kind) (.slice A t.set.length c) (.slice K t.kids.length ck) ∧ Below w.heap.size w w' :=
  h.mono fun e w' ⟨A, c, K, ck, h1, h2, h3⟩ => ⟨_, h1, A, c, K, ck, rfl, h2, h3⟩
theorem iMatch_r (r : Rex) (t : ByteArray) (v1 v2 : Value) (w : World) (lo : Nat) (b : Bool) (h : RexV w lo r (.int .i64 r.kind) v1 v2) (hsz : r.size ≤ 1048576) (hb : matchIs r t.data.toList = b) :
    Calls Try.prog 28 #[.agg #[.int .i64 r.kind, v1, v2], .string t] w fun e w' => e = .returned (.bool b) ∧ Below w.heap.size w w' :=
  (iMatchIs_c r t v1 v2 w lo h hsz).mono fun e w' ⟨h1, h2⟩ => ⟨by rw [h1, hb], h2⟩
set_option maxRecDepth 100000 in
set_option maxHeartbeats 8000000 in
theorem lawFnNormOne_c (A0 : Option Addr) (c0 : Nat) (bs0 : List Int) (A1 : Option Addr) (c1 : Nat) (bs1 : List Int) (w : World) (h0 : Bys w 0 A0 c0 bs0) (h1 : Bys w 0 A1 c1 bs1) :
    Calls Try.prog 10 #[.slice A0 bs0.length c0, .slice A1 bs1.length c1] w fun e w' => e = .returned (.bool true) ∧ Below w.heap.size w w' := by
  have hl0 := h0.len
  have hl1 := h1.len
  unfold maxN at hl0 hl1
  go_enter Try.func10, Try.ntmps10
  by_cases hb0 : (1048576 : Int) < bs0.length
  · go_wp2
    go_ret
    exact ⟨rfl, Below.refl _ _⟩
  by_cases hb1 : (1048576 : Int) < bs1.length
  · go_wp2
    go_ret
    exact ⟨rfl, Below.refl _ _⟩
  clear hl0 hl1
  go_wp2_with fail
  refine (drawStar_c _ _ _ _ h0).mono ?_
  rintro e w1 ⟨r, A, c, K, ck, rfl, hv, hs, b1⟩
  clear hb0 hb1
  go_wp2_with fail
  obtain ⟨w2, hwc⟩ : ∃ x, x = w1.alloc (.cells #[.int .i64 r.kind, .slice A r.set.length c, .slice K r.kids.length ck] TRx) := ⟨_, rfl⟩
  have hbc : Below w1.heap.size w1 w2 := by rw [hwc]; exact below_alloc (Below.refl _ _) _
  have Mw2 : Hid (Blk w2 w1.heap.size #[.int .i64 r.kind, .slice A r.set.length c, .slice K r.kids.length ck] TRx) := by rw [hwc]; exact blk_new w1 _ _
  rw [← hwc]
  clear hwc
  have b2 := below_then b1 hbc
  have V2 := Lib.hid (hv.rexv.under hbc)
  clear b1 hbc hv
  refine (drawIs_c _ _ _ _ (h1.below (lo := 0) b2)).mono ?_
  rintro e w3 ⟨q, Aq, cq, Kq, dq, t, rfl, _, _, ht, b3⟩
  have V3 := Lib.hid (V2.out.under b3)
  have M3 := Lib.hid (Mw2.out.below b3)
  have b23 := below_then b2 b3
  clear b2 b3 V2 Mw2 h0 h1
  have a := ((M3.out).cell 0).trans rfl
  have a' := ((M3.out).cell 1).trans rfl
  have a'' := ((M3.out).cell 2).trans rfl
  have a1 := fun o => cell_alloc a o
  have a1' := fun o => cell_alloc a' o
  have a1'' := fun o => cell_alloc a'' o
  go_wp2_with fail
  obtain ⟨w4, hw4⟩ : ∃ x, x = w3.alloc (.cells #[.int .i64 q.kind, .slice Aq q.set.length cq, .slice Kq q.kids.length dq] TRx) := ⟨_, rfl⟩
  have b4 : Below w3.heap.size w3 w4 := by rw [hw4]; exact below_alloc (Below.refl _ _) _
  have V4 := Lib.hid (V3.out.under b4)
  have M4 := Lib.hid (M3.out.below b4)
  have B4 := Lib.hid (below_then b23 b4)
  rw [← hw4]
  clear hw4 b4 b23 V3 M3 a a' a'' a1 a1' a1''
  have hsr : r.size ≤ 1048576 := by omega
  obtain ⟨s, hes⟩ : ∃ s, s = norm60 nStar r := ⟨_, rfl⟩
  obtain ⟨n, hen⟩ : ∃ n, n = norm60 nNot r := ⟨_, rfl⟩
  have hss : s.size ≤ 1048576 := by have := norm60_size nStar_size r; rw [hes]; omega
  have hsn : n.size ≤ 1048576 := by have := norm60_size nNot_size r; rw [hen]; omega
  have HES := Lib.hid hes
  have HEN := Lib.hid hen
  clear hes hen
  refine (iNormStar_r r _ _ w4 0 V4.out hsr).mono ?_
  rw [← HES.out]
  rintro e w5 ⟨As, cs, Ks, ds, rfl, hv5, b5⟩
  have V5 := Lib.hid (V4.out.under b5)
  have M5 := Lib.hid (M4.out.below b5)
  have B5 := Lib.hid (below_then B4.out b5)
  clear b5 V4 M4 B4
  have a := ((M5.out).cell 0).trans rfl
  have a' := ((M5.out).cell 1).trans rfl
  have a'' := ((M5.out).cell 2).trans rfl
  have a1 := fun o => cell_alloc a o
  have a1' := fun o => cell_alloc a' o
  have a1'' := fun o => cell_alloc a'' o
  go_wp2_with fail
  obtain ⟨w6, hw6⟩ : ∃ x, x = w5.alloc (.cells #[.int .i64 s.kind, .slice As s.set.length cs, .slice Ks s.kids.length ds] TRx) := ⟨_, rfl⟩
  have b6 : Below w5.heap.size w5 w6 := by rw [hw6]; exact below_alloc (Below.refl _ _) _
  have MS6 : Blk w6 w5.heap.size #[.int .i64 s.kind, .slice As s.set.length cs, .slice Ks s.kids.length ds] TRx := by rw [hw6]; exact blk_new w5 _ _
  have VS6 := hv5.under b6
  have V6 := V5.out.under b6
  have M6 := M5.out.below b6
  have B6 := below_then B5.out b6
  rw [← hw6]
  clear hw6 b6 V5 M5 B5 hv5 a a' a'' a1 a1' a1''
  refine (iNormNot_r r _ _ w6 0 V6 hsr).mono ?_
  rw [← HEN.out]
  rintro e w7 ⟨An, cn, Kn, dn, rfl, hv7, b7⟩
  have V7 := V6.under b7
  have M7 := M6.below b7
  have MS7 := MS6.below b7
  have VS7 := VS6.under b7
  have B7 := below_then B6 b7
  clear b7 V6 M6 MS6 VS6 B6
  go_wp2_with fail
  obtain ⟨w8, hw8⟩ : ∃ x, x = w7.alloc (.cells #[.int .i64 n.kind, .slice An n.set.length cn, .slice Kn n.kids.length dn] TRx) := ⟨_, rfl⟩
  have b8 : Below w7.heap.size w7 w8 := by rw [hw8]; exact below_alloc (Below.refl _ _) _
  have MX := Lib.hid (M7.below b8)
  have MS := Lib.hid (MS7.below b8)
  have MN : Hid (Blk w8 w7.heap.size #[.int .i64 n.kind, .slice An n.set.length cn, .slice Kn n.kids.length dn] TRx) := by rw [hw8]; exact blk_new w7 _ _
  have VX := Lib.hid (V7.under b8)
  have VS := Lib.hid (VS7.under b8)
  have VN := Lib.hid (hv7.under b8)
  have B8 := Lib.hid (below_then B7 b8)
  rw [← hw8]
  clear hw8 b8 V7 M7 MS7 VS7 B7 hv7
  have HM : Hid (∀ w', Below w8.heap.size w8 w' → w'.cell? ⟨w1.heap.size, 0, none⟩ = some (.int .i64 r.kind) ∧ w'.cell? ⟨w1.heap.size, 1, none⟩ = some (.slice A r.set.length c) ∧ w'.cell? ⟨w1.heap.size, 2, none⟩ = some (.slice K r.kids.length ck) ∧ w'.cell? ⟨w5.heap.size, 0, none⟩ = some (.int .i64 s.kind) ∧ w'.cell? ⟨w5.heap.size, 1, none⟩ = some (.slice As s.set.length cs) ∧ w'.cell? ⟨w5.heap.size, 2, none⟩ = some (.slice Ks s.kids.length ds) ∧ w'.cell? ⟨w7.heap.size, 0, none⟩ = some (.int .i64 n.kind) ∧ w'.cell? ⟨w7.heap.size, 1, none⟩ = some (.slice An n.set.length cn) ∧ w'.cell? ⟨w7.heap.size, 2, none⟩ = some (.slice Kn n.kids.length dn)) := fun w' hb =>
    ⟨((MX.out.below hb).cell 0).trans rfl, ((MX.out.below hb).cell 1).trans rfl, ((MX.out.below hb).cell 2).trans rfl, ((MS.out.below hb).cell 0).trans rfl, ((MS.out.below hb).cell 1).trans rfl, ((MS.out.below hb).cell 2).trans rfl, ((MN.out.below hb).cell 0).trans rfl, ((MN.out.below hb).cell 1).trans rfl, ((MN.out.below hb).cell 2).trans rfl⟩
  go_region_held3 (fun w' => w'.cell? ⟨w1.heap.size, 0, none⟩ = some (.int .i64 r.kind) ∧ w'.cell? ⟨w1.heap.size, 1, none⟩ = some (.slice A r.set.length c) ∧ w'.cell? ⟨w1.heap.size, 2, none⟩ = some (.slice K r.kids.length ck) ∧ w'.cell? ⟨w5.heap.size, 0, none⟩ = some (.int .i64 s.kind) ∧ w'.cell? ⟨w5.heap.size, 1, none⟩ = some (.slice As s.set.length cs) ∧ w'.cell? ⟨w5.heap.size, 2, none⟩ = some (.slice Ks s.kids.length ds) ∧ w'.cell? ⟨w7.heap.size, 0, none⟩ = some (.int .i64 n.kind) ∧ w'.cell? ⟨w7.heap.size, 1, none⟩ = some (.slice An n.set.length cn) ∧ w'.cell? ⟨w7.heap.size, 2, none⟩ = some (.slice Kn n.kids.length dn))
    (first | exact HM.out _ (Below.refl _ _) | exact HM.out _ (below_drew (Below.refl _ _)) | exact HM.out _ BA.out | exact HM.out _ BC.out | exact HM.out _ BD.out | exact HM.out _ BF.out)
    (first
      | (go_at_call 38; with_reducible refine (sNormStar_r r _ _ w8.drew 0 (VX.out.under (below_drew (Below.refl _ _))) hsr).mono ?_; rw [← HES.out]; rintro e wA ⟨Ay, cy, Ky, dy, rfl, hvA, bA⟩; have BA := Lib.hid (below_then (below_drew (Below.refl w8.heap.size w8)) bA); have VA := Lib.hid hvA; clear hvA bA)
      | (go_at_call 37; with_reducible refine (same_r s _ _ _ _ wA 0 0 (VS.out.under BA.out) VA.out).mono ?_; rintro e wC ⟨rfl, bC⟩; have BC := Lib.hid (below_then BA.out bC); clear bC)
      | (go_at_call 39; with_reducible refine (sNormNot_r r _ _ wC 0 (VX.out.under BC.out) hsr).mono ?_; rw [← HEN.out]; rintro e wD ⟨Az, cz, Kz, dz, rfl, hvD, bD⟩; have BD := Lib.hid (below_then BC.out bD); have VD := Lib.hid hvD; clear hvD bD)
      | (go_at_call 37; with_reducible refine (same_r n _ _ _ _ wD 0 0 (VN.out.under BD.out) VD.out).mono ?_; rintro e wF ⟨rfl, bF⟩; have BF := Lib.hid (below_then BD.out bF); clear bF))
  have VXF := Lib.hid (VX.out.under BF.out)
  have MXF := Lib.hid (MX.out.below BF.out)
  have bF8 := Lib.hid (below_then B8.out BF.out)
  obtain ⟨wG, hwG⟩ : ∃ x, x = (wF.alloc (.cells #[.int .i64 r.kind, .slice A r.set.length c, .slice K r.kids.length ck] TRx)).alloc (.cells #[.int .i64 5, nilS, .slice (some ⟨wF.heap.size, 0, none⟩) 1 1] TRx) := ⟨_, rfl⟩
  obtain ⟨hr5, mr5, bG⟩ := box_one 5 VXF.out hwG
  have hG := below_then BF.out bG
  have VXG := Lib.hid (VXF.out.under bG)
  have VSG := Lib.hid (VS.out.under hG)
  have VNG := Lib.hid (VN.out.under hG)
  have VRG := Lib.hid hr5
  have MXG := Lib.hid (MXF.out.below bG)
  have MSG := Lib.hid (MS.out.below hG)
  have MNG := Lib.hid (MN.out.below hG)
  have MRG := Lib.hid mr5
  have BG := Lib.hid (below_then bF8.out bG)
  have KG := Lib.hid (Below.refl wG.heap.size wG)
  have hs5 : (Rex.mk 5 [] [r]).size ≤ 1048576 := by rw [Go.Proofs.Ytplhbjpkkhhilaa.size_one]; omega
  have HT : Hid (t.data.toList.length = t.size) := tl_len t
  have a := ((MXF.out).cell 0).trans rfl
  have a' := ((MXF.out).cell 1).trans rfl
  have a'' := ((MXF.out).cell 2).trans rfl
  have a2 := fun o o2 => cell_alloc (cell_alloc a o) o2
  have a2' := fun o o2 => cell_alloc (cell_alloc a' o) o2
  have a2'' := fun o o2 => cell_alloc (cell_alloc a'' o) o2
  clear hr5 mr5 bG hG VX VS VN MX MS MN B8 BA BC BD BF VA VD HM VXF MXF bF8
  replace hwG := Lib.hid hwG.symm
  go_wp2_with fail
  rw [hwG.out]
  clear hwG a a' a'' a2 a2' a2''
  refine (sRexOk_c r _ _ wG 0 VXG.out hsr).mono ?_
  rintro e wH ⟨rfl, bH⟩
  have KH := Lib.hid (below_then KG.out bH)
  clear bH
  by_cases hok : rexOk r = true
  rotate_left
  · rw [show rexOk r = false by simpa using hok]
    clear hok
    go_wp2
    go_ret
    exact ⟨rfl, below_then BG.out KH.out⟩
  rw [hok]
  have a := ((MRG.out.below KH.out).cell 0).trans rfl
  have a' := ((MRG.out.below KH.out).cell 1).trans rfl
  have a'' := ((MRG.out.below KH.out).cell 2).trans rfl
  go_wp2_with fail
  refine (sRexOk_c (.mk 5 [] [r]) _ _ wH 0 (VRG.out.under KH.out) hs5).mono ?_
  rintro e wI ⟨rfl, bI⟩
  have KI := Lib.hid (below_then KH.out bI)
  clear bI a a' a''
  by_cases hok5 : rexOk (.mk 5 [] [r]) = true
  rotate_left
  · rw [show rexOk (.mk 5 [] [r]) = false by simpa using hok5]
    clear hok hok5
    go_wp2
    go_ret
    exact ⟨rfl, below_then BG.out KI.out⟩
  rw [hok5]
  by_cases hl : (12 : Int) < (t.size : Int)
  · clear hok hok5
    go_wp2
    go_ret
    exact ⟨rfl, below_then BG.out KI.out⟩
  have hT : t.data.toList.length ≤ 12 := by rw [HT.out]; omega
  have hes : s = nStar r := by rw [HES.out, norm60_of hok]
  have hen : n = nNot r := by rw [HEN.out, norm60_of hok]
  obtain ⟨q1, q2⟩ := norm_star hok hok5 hT
  obtain ⟨q3, q4⟩ := norm_not hok hok5 hT
  obtain ⟨m, hm⟩ : ∃ m, m = matchIs (.mk 5 [] [r]) t.data.toList := ⟨_, rfl⟩
  obtain ⟨z, hz⟩ : ∃ z, z = matchIs r t.data.toList := ⟨_, rfl⟩
  have E1 : Hid (matchIs s t.data.toList = m) := by show _ = _; rw [hes, q2, hm]
  have E2 := Lib.hid hm.symm
  have E3 : Hid (matchIs n t.data.toList = !z) := by show _ = _; rw [hen, q4, hz]
  have E4 := Lib.hid hz.symm
  have E5 : Hid (norm60 nStar s = s) := by show _ = _; rw [hes, norm60_of q1, nStar_idem]
  have E6 : Hid (r.kind ≠ 7 → norm60 nNot n = r) := fun h => by rw [hen, norm60_of q3, nNot_back h]
  clear hok hok5 hT hes hen q1 q2 q3 q4 hm hz HES HEN
  have HM : Hid (∀ w', Below wI.heap.size wI w' → w'.cell? ⟨w1.heap.size, 0, none⟩ = some (.int .i64 r.kind) ∧ w'.cell? ⟨w1.heap.size, 1, none⟩ = some (.slice A r.set.length c) ∧ w'.cell? ⟨w1.heap.size, 2, none⟩ = some (.slice K r.kids.length ck) ∧ w'.cell? ⟨w5.heap.size, 0, none⟩ = some (.int .i64 s.kind) ∧ w'.cell? ⟨w5.heap.size, 1, none⟩ = some (.slice As s.set.length cs) ∧ w'.cell? ⟨w5.heap.size, 2, none⟩ = some (.slice Ks s.kids.length ds) ∧ w'.cell? ⟨w7.heap.size, 0, none⟩ = some (.int .i64 n.kind) ∧ w'.cell? ⟨w7.heap.size, 1, none⟩ = some (.slice An n.set.length cn) ∧ w'.cell? ⟨w7.heap.size, 2, none⟩ = some (.slice Kn n.kids.length dn) ∧ w'.cell? ⟨wF.heap.size + 1, 0, none⟩ = some (.int .i64 5) ∧ w'.cell? ⟨wF.heap.size + 1, 1, none⟩ = some (nilS) ∧ w'.cell? ⟨wF.heap.size + 1, 2, none⟩ = some (.slice (some ⟨wF.heap.size, 0, none⟩) 1 1)) := fun w' hb =>
    have hb := below_then KI.out hb
    ⟨((MXG.out.below hb).cell 0).trans rfl, ((MXG.out.below hb).cell 1).trans rfl, ((MXG.out.below hb).cell 2).trans rfl, ((MSG.out.below hb).cell 0).trans rfl, ((MSG.out.below hb).cell 1).trans rfl, ((MSG.out.below hb).cell 2).trans rfl, ((MNG.out.below hb).cell 0).trans rfl, ((MNG.out.below hb).cell 1).trans rfl, ((MNG.out.below hb).cell 2).trans rfl, ((MRG.out.below hb).cell 0).trans rfl, ((MRG.out.below hb).cell 1).trans rfl, ((MRG.out.below hb).cell 2).trans rfl⟩
  have VXI := Lib.hid (VXG.out.under KI.out)
  have VSI := Lib.hid (VSG.out.under KI.out)
  have VNI := Lib.hid (VNG.out.under KI.out)
  have VRI := Lib.hid (VRG.out.under KI.out)
  have CR : Hid (∀ (w' : World), Below wI.heap.size wI w' → Calls Try.prog 28 #[.agg #[.int .i64 5, nilS, .slice (some ⟨wF.heap.size, 0, none⟩) 1 1], .string t] w' fun e w'' => e = .returned (.bool m) ∧ Below w'.heap.size w' w'') := fun w' hb => iMatch_r (.mk 5 [] [r]) t _ _ w' 0 m (VRI.out.under hb) hs5 E2.out
  by_cases h7 : r.kind = 7
  · obtain ⟨k0, rs, rks⟩ := r
    have h7' : k0 = 7 := h7
    subst h7'
    clear h7 E6
    replace HM : Hid (∀ w', Below wI.heap.size wI w' → w'.cell? ⟨w1.heap.size, 0, none⟩ = some (.int .i64 7) ∧ w'.cell? ⟨w1.heap.size, 1, none⟩ = some (.slice A rs.length c) ∧ w'.cell? ⟨w1.heap.size, 2, none⟩ = some (.slice K rks.length ck) ∧ w'.cell? ⟨w5.heap.size, 0, none⟩ = some (.int .i64 s.kind) ∧ w'.cell? ⟨w5.heap.size, 1, none⟩ = some (.slice As s.set.length cs) ∧ w'.cell? ⟨w5.heap.size, 2, none⟩ = some (.slice Ks s.kids.length ds) ∧ w'.cell? ⟨w7.heap.size, 0, none⟩ = some (.int .i64 n.kind) ∧ w'.cell? ⟨w7.heap.size, 1, none⟩ = some (.slice An n.set.length cn) ∧ w'.cell? ⟨w7.heap.size, 2, none⟩ = some (.slice Kn n.kids.length dn) ∧ w'.cell? ⟨wF.heap.size + 1, 0, none⟩ = some (.int .i64 5) ∧ w'.cell? ⟨wF.heap.size + 1, 1, none⟩ = some (nilS) ∧ w'.cell? ⟨wF.heap.size + 1, 2, none⟩ = some (.slice (some ⟨wF.heap.size, 0, none⟩) 1 1)) := HM
    have CX : Hid (∀ (w' : World), Below wI.heap.size wI w' → Calls Try.prog 28 #[.agg #[.int .i64 7, .slice A rs.length c, .slice K rks.length ck], .string t] w' fun e w'' => e = .returned (.bool z) ∧ Below w'.heap.size w' w'') := fun w' hb => iMatch_r (.mk 7 rs rks) t _ _ w' 0 z (VXI.out.under hb) hsr E4.out
    have CS1 : Hid (∀ (w' : World), Below wI.heap.size wI w' → Calls Try.prog 28 #[.agg #[.int .i64 s.kind, .slice As s.set.length cs, .slice Ks s.kids.length ds], .string t] w' fun e w'' => e = .returned (.bool m) ∧ Below w'.heap.size w' w'') := fun w' hb => iMatch_r s t _ _ w' 0 m (VSI.out.under hb) hss E1.out
    have CN1 : Hid (∀ (w' : World), Below wI.heap.size wI w' → Calls Try.prog 28 #[.agg #[.int .i64 n.kind, .slice An n.set.length cn, .slice Kn n.kids.length dn], .string t] w' fun e w'' => e = .returned (.bool (!z)) ∧ Below w'.heap.size w' w'') := fun w' hb => iMatch_r n t _ _ w' 0 (!z) (VNI.out.under hb) hsn E3.out
    have CNS : Hid (∀ w', Below wI.heap.size wI w' → Calls Try.prog 35 #[.agg #[.int .i64 s.kind, .slice As s.set.length cs, .slice Ks s.kids.length ds]] w' (TreeOut s w')) := fun w' hb => by
      have := iNormStar_r s _ _ w' 0 (VSI.out.under hb) hss
      rw [E5.out] at this
      exact this
    obtain ⟨g0, g1, g2, g3, g4, g5, g6, g7, g8, g9, g10, g11⟩ := HM.out wI (Below.refl _ _)
    go_wp2_with fail
    clear g0 g1 g2 g3 g4 g5 g6 g7 g8 g9 g10 g11
    refine wp_region_held_drew (S := fun w' => w'.cell? ⟨w1.heap.size, 0, none⟩ = some (.int .i64 7) ∧ w'.cell? ⟨w1.heap.size, 1, none⟩ = some (.slice A rs.length c) ∧ w'.cell? ⟨w1.heap.size, 2, none⟩ = some (.slice K rks.length ck) ∧ w'.cell? ⟨w5.heap.size, 0, none⟩ = some (.int .i64 s.kind) ∧ w'.cell? ⟨w5.heap.size, 1, none⟩ = some (.slice As s.set.length cs) ∧ w'.cell? ⟨w5.heap.size, 2, none⟩ = some (.slice Ks s.kids.length ds) ∧ w'.cell? ⟨w7.heap.size, 0, none⟩ = some (.int .i64 n.kind) ∧ w'.cell? ⟨w7.heap.size, 1, none⟩ = some (.slice An n.set.length cn) ∧ w'.cell? ⟨w7.heap.size, 2, none⟩ = some (.slice Kn n.kids.length dn) ∧ w'.cell? ⟨wF.heap.size + 1, 0, none⟩ = some (.int .i64 5) ∧ w'.cell? ⟨wF.heap.size + 1, 1, none⟩ = some (nilS) ∧ w'.cell? ⟨wF.heap.size + 1, 2, none⟩ = some (.slice (some ⟨wF.heap.size, 0, none⟩) 1 1)) (by kernel_rfl) (HM.out _ (below_drew (Below.refl _ _))) (fun hHeld0 => ?_)
    refine wpAnyH_take (i := 0) (v := ?_) rfl (by kernel_rfl) (by kernel_rfl) (by kernel_rfl) (fun _ _ _ h => h) (Or.inl ⟨by rfl, ?_⟩) (by assumption) ?_
    rotate_left
    · (intro w hSw; (try dsimp only at hSw); go_simp; try with_reducible rfl)
    try simp only [Act.put, List.getElem_toArray, List.getElem_cons_zero, List.getElem_cons_succ, List.setIfInBounds_toArray, List.set_cons_zero, List.set_cons_succ]
    refine wpAnyH_take (i := 1) (v := ?_) rfl (by kernel_rfl) (by kernel_rfl) (by kernel_rfl) (fun _ _ _ h => h) (Or.inl ⟨by rfl, ?_⟩) (by assumption) ?_
    rotate_left
    · (intro w hSw; (try dsimp only at hSw); go_simp; try with_reducible rfl)
    try simp only [Act.put, List.getElem_toArray, List.getElem_cons_zero, List.getElem_cons_succ, List.setIfInBounds_toArray, List.set_cons_zero, List.set_cons_succ]
    refine wpAnyH_take (i := 3) (v := ?_) rfl (by kernel_rfl) (by kernel_rfl) (by kernel_rfl) (fun _ _ _ h => h) (Or.inl ⟨by rfl, ?_⟩) (by assumption) ?_
    rotate_left
    · (intro w hSw; (try dsimp only at hSw); go_simp; try with_reducible rfl)
    try simp only [Act.put, List.getElem_toArray, List.getElem_cons_zero, List.getElem_cons_succ, List.setIfInBounds_toArray, List.set_cons_zero, List.set_cons_succ]
    refine wpAnyH_take (i := 4) (v := ?_) rfl (by kernel_rfl) (by kernel_rfl) (by kernel_rfl) (fun _ _ _ h => h) (Or.inl ⟨by rfl, ?_⟩) (by assumption) ?_
    rotate_left
    · (intro w hSw; (try dsimp only at hSw); go_simp; try with_reducible rfl)
    try simp only [Act.put, List.getElem_toArray, List.getElem_cons_zero, List.getElem_cons_succ, List.setIfInBounds_toArray, List.set_cons_zero, List.set_cons_succ]
    refine wpAnyH_ready (rs := [2]) (by kernel_rfl) (by simp) ?_
    refine AllReadyH.cons (o := ⟨some 60, _, _, _, _, _⟩) rfl (fun K hK => ?_) AllReadyH.nil
    go_simp
    refine (CS1.out wI.drew (below_drew (Below.refl _ _))).mono ?_
    rintro e x1 ⟨rfl, b1⟩
    have B1 := Lib.hid (below_then (below_drew (Below.refl wI.heap.size wI)) b1)
    clear b1
    (try go_wp2_with fail)
    refine hK.out _ _ (HM.out x1 B1.out) (fun hHeld1 => ?_)
    clear hK K hHeld0
    try simp only [Act.put, List.getElem_toArray, List.getElem_cons_zero, List.getElem_cons_succ, List.setIfInBounds_toArray, List.set_cons_zero, List.set_cons_succ]
    refine wpAnyH_ready (rs := [5]) (by kernel_rfl) (by simp) ?_
    refine AllReadyH.cons (o := ⟨some 63, _, _, _, _, _⟩) rfl (fun K hK => ?_) AllReadyH.nil
    go_simp
    refine (CR.out x1 B1.out).mono ?_
    rintro e x2 ⟨rfl, b2⟩
    have B2 := Lib.hid (below_then (B1.out) b2)
    clear b2
    (try go_wp2_with fail)
    refine hK.out _ _ (HM.out x2 B2.out) (fun hHeld2 => ?_)
    clear hK K hHeld1
    try simp only [Act.put, List.getElem_toArray, List.getElem_cons_zero, List.getElem_cons_succ, List.setIfInBounds_toArray, List.set_cons_zero, List.set_cons_succ]
    refine wpAnyH_take (i := 6) (v := ?_) rfl (by kernel_rfl) (by kernel_rfl) (by kernel_rfl) (fun _ _ _ h => h) (Or.inl ⟨by rfl, ?_⟩) (by assumption) ?_
    rotate_left
    · (intro w hSw; (try dsimp only at hSw); go_simp; try with_reducible rfl)
    try simp only [Act.put, List.getElem_toArray, List.getElem_cons_zero, List.getElem_cons_succ, List.setIfInBounds_toArray, List.set_cons_zero, List.set_cons_succ]
    refine wpAnyH_take (i := 7) (v := ?_) rfl (by kernel_rfl) (by kernel_rfl) (by kernel_rfl) (fun _ _ _ h => h) (Or.inl ⟨by rfl, ?_⟩) (by assumption) ?_
    rotate_left
    · (intro w hSw; (try dsimp only at hSw); go_simp; try with_reducible rfl)
    try simp only [Act.put, List.getElem_toArray, List.getElem_cons_zero, List.getElem_cons_succ, List.setIfInBounds_toArray, List.set_cons_zero, List.set_cons_succ]
    refine wpAnyH_take (i := 8) (v := ?_) rfl (by kernel_rfl) (by kernel_rfl) (by kernel_rfl) (fun _ _ _ h => h) (Or.inl ⟨by rfl, ?_⟩) (by assumption) ?_
    rotate_left
    · (intro w hSw; (try dsimp only at hSw); go_simp; try with_reducible rfl)
    try simp only [Act.put, List.getElem_toArray, List.getElem_cons_zero, List.getElem_cons_succ, List.setIfInBounds_toArray, List.set_cons_zero, List.set_cons_succ]
    refine wpAnyH_take (i := 9) (v := ?_) rfl (by kernel_rfl) (by kernel_rfl) (by kernel_rfl) (fun _ _ _ h => h) (Or.inl ⟨by rfl, ?_⟩) (by assumption) ?_
    rotate_left
    · (intro w hSw; (try dsimp only at hSw); go_simp; try with_reducible rfl)
    try simp only [Act.put, List.getElem_toArray, List.getElem_cons_zero, List.getElem_cons_succ, List.setIfInBounds_toArray, List.set_cons_zero, List.set_cons_succ]
    refine wpAnyH_take (i := 11) (v := ?_) rfl (by kernel_rfl) (by kernel_rfl) (by kernel_rfl) (fun _ _ _ h => h) (Or.inl ⟨by rfl, ?_⟩) (by assumption) ?_
    rotate_left
    · (intro w hSw; (try dsimp only at hSw); go_simp; try with_reducible rfl)
    try simp only [Act.put, List.getElem_toArray, List.getElem_cons_zero, List.getElem_cons_succ, List.setIfInBounds_toArray, List.set_cons_zero, List.set_cons_succ]
    refine wpAnyH_take (i := 12) (v := ?_) rfl (by kernel_rfl) (by kernel_rfl) (by kernel_rfl) (fun _ _ _ h => h) (Or.inl ⟨by rfl, ?_⟩) (by assumption) ?_
    rotate_left
    · (intro w hSw; (try dsimp only at hSw); go_simp; try with_reducible rfl)
    try simp only [Act.put, List.getElem_toArray, List.getElem_cons_zero, List.getElem_cons_succ, List.setIfInBounds_toArray, List.set_cons_zero, List.set_cons_succ]
    refine wpAnyH_ready (rs := [10]) (by kernel_rfl) (by simp) ?_
    refine AllReadyH.cons (o := ⟨some 68, _, _, _, _, _⟩) rfl (fun K hK => ?_) AllReadyH.nil
    go_simp
    refine (CN1.out x2 B2.out).mono ?_
    rintro e x3 ⟨rfl, b3⟩
    have B3 := Lib.hid (below_then (B2.out) b3)
    clear b3
    (try go_wp2_with fail)
    refine hK.out _ _ (HM.out x3 B3.out) (fun hHeld3 => ?_)
    clear hK K hHeld2
    try simp only [Act.put, List.getElem_toArray, List.getElem_cons_zero, List.getElem_cons_succ, List.setIfInBounds_toArray, List.set_cons_zero, List.set_cons_succ]
    refine wpAnyH_ready (rs := [13]) (by kernel_rfl) (by simp) ?_
    refine AllReadyH.cons (o := ⟨some 71, _, _, _, _, _⟩) rfl (fun K hK => ?_) AllReadyH.nil
    go_simp
    refine (CX.out x3 B3.out).mono ?_
    rintro e x4 ⟨rfl, b4⟩
    have B4 := Lib.hid (below_then (B3.out) b4)
    clear b4
    (try go_wp2_with fail)
    refine hK.out _ _ (HM.out x4 B4.out) (fun hHeld4 => ?_)
    clear hK K hHeld3
    try simp only [Act.put, List.getElem_toArray, List.getElem_cons_zero, List.getElem_cons_succ, List.setIfInBounds_toArray, List.set_cons_zero, List.set_cons_succ]
    refine wpAnyH_take (i := 14) (v := ?_) rfl (by kernel_rfl) (by kernel_rfl) (by kernel_rfl) (fun _ _ _ h => h) (Or.inl ⟨by rfl, ?_⟩) (by assumption) ?_
    rotate_left
    · (intro w hSw; (try dsimp only at hSw); go_simp; try with_reducible rfl)
    try simp only [Act.put, List.getElem_toArray, List.getElem_cons_zero, List.getElem_cons_succ, List.setIfInBounds_toArray, List.set_cons_zero, List.set_cons_succ]
    refine wpAnyH_take (i := 15) (v := ?_) rfl (by kernel_rfl) (by kernel_rfl) (by kernel_rfl) (fun _ _ _ h => h) (Or.inl ⟨by rfl, ?_⟩) (by assumption) ?_
    rotate_left
    · (intro w hSw; (try dsimp only at hSw); go_simp; try with_reducible rfl)
    try simp only [Act.put, List.getElem_toArray, List.getElem_cons_zero, List.getElem_cons_succ, List.setIfInBounds_toArray, List.set_cons_zero, List.set_cons_succ]
    refine wpAnyH_take (i := 16) (v := ?_) rfl (by kernel_rfl) (by kernel_rfl) (by kernel_rfl) (fun _ _ _ h => h) (Or.inl ⟨by rfl, ?_⟩) (by assumption) ?_
    rotate_left
    · (intro w hSw; (try dsimp only at hSw); go_simp; try with_reducible rfl)
    try simp only [Act.put, List.getElem_toArray, List.getElem_cons_zero, List.getElem_cons_succ, List.setIfInBounds_toArray, List.set_cons_zero, List.set_cons_succ]
    refine wpAnyH_take (i := 17) (v := ?_) rfl (by kernel_rfl) (by kernel_rfl) (by kernel_rfl) (fun _ _ _ h => h) (Or.inl ⟨by rfl, ?_⟩) (by assumption) ?_
    rotate_left
    · (intro w hSw; (try dsimp only at hSw); go_simp; try with_reducible rfl)
    try simp only [Act.put, List.getElem_toArray, List.getElem_cons_zero, List.getElem_cons_succ, List.setIfInBounds_toArray, List.set_cons_zero, List.set_cons_succ]
    refine wpAnyH_take (i := 18) (v := ?_) rfl (by kernel_rfl) (by kernel_rfl) (by kernel_rfl) (fun _ _ _ h => h) (Or.inl ⟨by rfl, ?_⟩) (by assumption) ?_
    rotate_left
    · (intro w hSw; (try dsimp only at hSw); go_simp; try with_reducible rfl)
    try simp only [Act.put, List.getElem_toArray, List.getElem_cons_zero, List.getElem_cons_succ, List.setIfInBounds_toArray, List.set_cons_zero, List.set_cons_succ]
    refine wpAnyH_take (i := 20) (v := ?_) rfl (by kernel_rfl) (by kernel_rfl) (by kernel_rfl) (fun _ _ _ h => h) (Or.inl ⟨by rfl, ?_⟩) (by assumption) ?_
    rotate_left
    · (intro w hSw; (try dsimp only at hSw); go_simp; try with_reducible rfl)
    try simp only [Act.put, List.getElem_toArray, List.getElem_cons_zero, List.getElem_cons_succ, List.setIfInBounds_toArray, List.set_cons_zero, List.set_cons_succ]
    refine wpAnyH_ready (rs := [19]) (by kernel_rfl) (by simp) ?_
    refine AllReadyH.cons (o := ⟨some 77, _, _, _, _, _⟩) rfl (fun K hK => ?_) AllReadyH.nil
    go_simp
    refine (CNS.out x4 B4.out).mono ?_
    rintro e x5 ⟨Ay, cy, Ky, dy, rfl, hv5, b5⟩
    have B5 := Lib.hid (below_then B4.out b5)
    have VY := Lib.hid hv5
    clear b5 hv5
    (try go_wp2_with fail)
    refine hK.out _ _ (HM.out x5 B5.out) (fun hHeld5 => ?_)
    clear hK K hHeld4
    try simp only [Act.put, List.getElem_toArray, List.getElem_cons_zero, List.getElem_cons_succ, List.setIfInBounds_toArray, List.set_cons_zero, List.set_cons_succ]
    refine wpAnyH_ready (rs := [21]) (by kernel_rfl) (by simp) ?_
    refine AllReadyH.cons (o := ⟨some 79, _, _, _, _, _⟩) rfl (fun K hK => ?_) AllReadyH.nil
    go_simp
    refine (same_r s _ _ _ _ x5 0 0 VY.out (VSI.out.under B5.out)).mono ?_
    rintro e x6 ⟨rfl, b6⟩
    have B6 := Lib.hid (below_then (B5.out) b6)
    clear b6
    (try go_wp2_with fail)
    refine hK.out _ _ (HM.out x6 B6.out) (fun hHeld6 => ?_)
    clear hK K hHeld5
    try simp only [Act.put, List.getElem_toArray, List.getElem_cons_zero, List.getElem_cons_succ, List.setIfInBounds_toArray, List.set_cons_zero, List.set_cons_succ]
    refine wpAnyH_take (i := 22) (v := ?_) rfl (by kernel_rfl) (by kernel_rfl) (by kernel_rfl) (fun _ _ _ h => h) (Or.inl ⟨by rfl, ?_⟩) (by assumption) ?_
    rotate_left
    · (intro w hSw; (try dsimp only at hSw); go_simp; try with_reducible rfl)
    try simp only [Act.put, List.getElem_toArray, List.getElem_cons_zero, List.getElem_cons_succ, List.setIfInBounds_toArray, List.set_cons_zero, List.set_cons_succ]
    refine wpAnyH_take (i := 23) (v := ?_) rfl (by kernel_rfl) (by kernel_rfl) (by kernel_rfl) (fun _ _ _ h => h) (Or.inl ⟨by rfl, ?_⟩) (by assumption) ?_
    rotate_left
    · (intro w hSw; (try dsimp only at hSw); go_simp; try with_reducible rfl)
    try simp only [Act.put, List.getElem_toArray, List.getElem_cons_zero, List.getElem_cons_succ, List.setIfInBounds_toArray, List.set_cons_zero, List.set_cons_succ]
    refine wpAnyH_take (i := 24) (v := ?_) rfl (by kernel_rfl) (by kernel_rfl) (by kernel_rfl) (fun _ _ _ h => h) (Or.inl ⟨by rfl, ?_⟩) (by assumption) ?_
    rotate_left
    · (intro w hSw; (try dsimp only at hSw); go_simp; try with_reducible rfl)
    try simp only [Act.put, List.getElem_toArray, List.getElem_cons_zero, List.getElem_cons_succ, List.setIfInBounds_toArray, List.set_cons_zero, List.set_cons_succ]
    refine wpAnyH_take (i := 25) (v := ?_) rfl (by kernel_rfl) (by kernel_rfl) (by kernel_rfl) (fun _ _ _ h => h) (Or.inl ⟨by rfl, ?_⟩) (by assumption) ?_
    rotate_left
    · (intro w hSw; (try dsimp only at hSw); go_simp; try with_reducible rfl)
    try simp only [Act.put, List.getElem_toArray, List.getElem_cons_zero, List.getElem_cons_succ, List.setIfInBounds_toArray, List.set_cons_zero, List.set_cons_succ]
    refine wpAnyH_take (i := 26) (v := ?_) rfl (by kernel_rfl) (by kernel_rfl) (by kernel_rfl) (fun _ _ _ h => h) (Or.inl ⟨by rfl, ?_⟩) (by assumption) ?_
    rotate_left
    · (intro w hSw; (try dsimp only at hSw); go_simp; try with_reducible rfl)
    try simp only [Act.put, List.getElem_toArray, List.getElem_cons_zero, List.getElem_cons_succ, List.setIfInBounds_toArray, List.set_cons_zero, List.set_cons_succ]
    refine wpAnyH_take (i := 27) (v := ?_) rfl (by kernel_rfl) (by kernel_rfl) (by kernel_rfl) (fun _ _ _ h => h) (Or.inl ⟨by rfl, ?_⟩) (by assumption) ?_
    rotate_left
    · (intro w hSw; (try dsimp only at hSw); go_simp; try with_reducible rfl)
    try simp only [Act.put, List.getElem_toArray, List.getElem_cons_zero, List.getElem_cons_succ, List.setIfInBounds_toArray, List.set_cons_zero, List.set_cons_succ]
    refine wpAnyH_take (i := 28) (v := undef) rfl (by kernel_rfl) (by kernel_rfl) (by kernel_rfl) (fun _ _ _ h => h) (Or.inr ⟨by rfl, rfl⟩) (by assumption) ?_
    try simp only [Act.put, List.getElem_toArray, List.getElem_cons_zero, List.getElem_cons_succ, List.setIfInBounds_toArray, List.set_cons_zero, List.set_cons_succ]
    refine wpAnyH_take (i := 29) (v := undef) rfl (by kernel_rfl) (by kernel_rfl) (by kernel_rfl) (fun _ _ _ h => h) (Or.inr ⟨by rfl, rfl⟩) (by assumption) ?_
    try simp only [Act.put, List.getElem_toArray, List.getElem_cons_zero, List.getElem_cons_succ, List.setIfInBounds_toArray, List.set_cons_zero, List.set_cons_succ]
    refine wpAnyH_take (i := 30) (v := undef) rfl (by kernel_rfl) (by kernel_rfl) (by kernel_rfl) (fun _ _ _ h => h) (Or.inr ⟨by rfl, rfl⟩) (by assumption) ?_
    try simp only [Act.put, List.getElem_toArray, List.getElem_cons_zero, List.getElem_cons_succ, List.setIfInBounds_toArray, List.set_cons_zero, List.set_cons_succ]
    refine wpAnyH_take (i := 31) (v := undef) rfl (by kernel_rfl) (by kernel_rfl) (by kernel_rfl) (fun _ _ _ h => h) (Or.inr ⟨by rfl, rfl⟩) (by assumption) ?_
    try simp only [Act.put, List.getElem_toArray, List.getElem_cons_zero, List.getElem_cons_succ, List.setIfInBounds_toArray, List.set_cons_zero, List.set_cons_succ]
    refine wpAnyH_take (i := 32) (v := ?_) rfl (by kernel_rfl) (by kernel_rfl) (by kernel_rfl) (fun _ _ _ h => h) (Or.inl ⟨by rfl, ?_⟩) (by assumption) ?_
    rotate_left
    · (intro w hSw; (try dsimp only at hSw); go_simp; try with_reducible rfl)
    try simp only [Act.put, List.getElem_toArray, List.getElem_cons_zero, List.getElem_cons_succ, List.setIfInBounds_toArray, List.set_cons_zero, List.set_cons_succ]
    refine wpAnyH_take (i := 33) (v := ?_) rfl (by kernel_rfl) (by kernel_rfl) (by kernel_rfl) (fun _ _ _ h => h) (Or.inl ⟨by rfl, ?_⟩) (by assumption) ?_
    rotate_left
    · (intro w hSw; (try dsimp only at hSw); go_simp; try with_reducible rfl)
    try simp only [Act.put, List.getElem_toArray, List.getElem_cons_zero, List.getElem_cons_succ, List.setIfInBounds_toArray, List.set_cons_zero, List.set_cons_succ]
    refine wpAnyH_take (i := 34) (v := ?_) rfl (by kernel_rfl) (by kernel_rfl) (by kernel_rfl) (fun _ _ _ h => h) (Or.inl ⟨by rfl, ?_⟩) (by assumption) ?_
    rotate_left
    · (intro w hSw; (try dsimp only at hSw); go_simp; try with_reducible rfl)
    try simp only [Act.put, List.getElem_toArray, List.getElem_cons_zero, List.getElem_cons_succ, List.setIfInBounds_toArray, List.set_cons_zero, List.set_cons_succ]
    refine wpAnyH_done (by kernel_rfl) ?_ _
    go_wp2
    go_ret
    exact ⟨rfl, below_then BG.out (below_then KI.out B6.out)⟩
  · have CX : Hid (∀ (w' : World), Below wI.heap.size wI w' → Calls Try.prog 28 #[.agg #[.int .i64 r.kind, .slice A r.set.length c, .slice K r.kids.length ck], .string t] w' fun e w'' => e = .returned (.bool z) ∧ Below w'.heap.size w' w'') := fun w' hb => iMatch_r r t _ _ w' 0 z (VXI.out.under hb) hsr E4.out
    have d7 : (r.kind == 7) = false := by simp [h7]
    have d7' : decide (r.kind = 7) = false := by simp [h7]
    have h7' := h7
    replace h7 := Lib.hid h7
    go_wp2_with fail
    go_region_held3 (fun w' => w'.cell? ⟨w1.heap.size, 0, none⟩ = some (.int .i64 (r.kind)) ∧ w'.cell? ⟨w1.heap.size, 1, none⟩ = some (.slice A r.set.length c) ∧ w'.cell? ⟨w1.heap.size, 2, none⟩ = some (.slice K r.kids.length ck) ∧ w'.cell? ⟨w5.heap.size, 0, none⟩ = some (.int .i64 s.kind) ∧ w'.cell? ⟨w5.heap.size, 1, none⟩ = some (.slice As s.set.length cs) ∧ w'.cell? ⟨w5.heap.size, 2, none⟩ = some (.slice Ks s.kids.length ds) ∧ w'.cell? ⟨w7.heap.size, 0, none⟩ = some (.int .i64 n.kind) ∧ w'.cell? ⟨w7.heap.size, 1, none⟩ = some (.slice An n.set.length cn) ∧ w'.cell? ⟨w7.heap.size, 2, none⟩ = some (.slice Kn n.kids.length dn) ∧ w'.cell? ⟨wF.heap.size + 1, 0, none⟩ = some (.int .i64 5) ∧ w'.cell? ⟨wF.heap.size + 1, 1, none⟩ = some (nilS) ∧ w'.cell? ⟨wF.heap.size + 1, 2, none⟩ = some (.slice (some ⟨wF.heap.size, 0, none⟩) 1 1))
      (first | exact HM.out _ (Below.refl _ _) | exact HM.out _ (below_drew (Below.refl _ _)) | exact HM.out _ B1.out | exact HM.out _ B2.out | exact HM.out _ B3.out | exact HM.out _ B4.out | exact HM.out _ B5.out | exact HM.out _ B6.out | exact HM.out _ B7.out | exact HM.out _ B9.out)
      (first
        | (go_at_call 28; with_reducible refine (iMatch_r s t _ _ wI.drew 0 m (VSI.out.under (below_drew (Below.refl _ _))) hss E1.out).mono ?_; rintro e x1 ⟨rfl, b1⟩; have B1 := Lib.hid (below_then (below_drew (Below.refl wI.heap.size wI)) b1); clear b1)
        | (go_at_call 28; with_reducible refine (CR.out x1 B1.out).mono ?_; rintro e x2 ⟨rfl, b2⟩; have B2 := Lib.hid (below_then B1.out b2); clear b2)
        | (go_at_call 28; with_reducible refine (iMatch_r n t _ _ x2 0 (!z) (VNI.out.under B2.out) hsn E3.out).mono ?_; rintro e x3 ⟨rfl, b3⟩; have B3 := Lib.hid (below_then B2.out b3); clear b3)
        | (go_at_call 28; with_reducible refine (CX.out x3 B3.out).mono ?_; rintro e x4 ⟨rfl, b4⟩; have B4 := Lib.hid (below_then B3.out b4); clear b4)
        | (go_at_call 35; with_reducible refine (iNormStar_r s _ _ x4 0 (VSI.out.under B4.out) hss).mono ?_; rw [E5.out]; rintro e x5 ⟨Ay, cy, Ky, dy, rfl, hv5, b5⟩; have B5 := Lib.hid (below_then B4.out b5); have VY := Lib.hid hv5; clear b5 hv5)
        | (go_at_call 37; with_reducible refine (same_r s _ _ _ _ x5 0 0 VY.out (VSI.out.under B5.out)).mono ?_; rintro e x6 ⟨rfl, b6⟩; have B6 := Lib.hid (below_then B5.out b6); clear b6)
        | (go_at_call 36; with_reducible refine (iNormNot_r n _ _ x6 0 (VNI.out.under B6.out) hsn).mono ?_; rw [E6.out h7.out]; rintro e x7 ⟨Az, cz, Kz, dz, rfl, hv7, b7⟩; have B7 := Lib.hid (below_then B6.out b7); have VZ := Lib.hid hv7; clear b7 hv7)
        | (go_at_call 37; with_reducible refine (same_r r _ _ _ _ x7 0 0 VZ.out (VXI.out.under B7.out)).mono ?_; rintro e x9 ⟨rfl, b9⟩; have B9 := Lib.hid (below_then B7.out b9); clear b9))
    go_wp2
    go_ret
    exact ⟨rfl, below_then BG.out (below_then KI.out (B9).out)⟩

end Go.Proofs.Ytplhbjpkkhhilaa
