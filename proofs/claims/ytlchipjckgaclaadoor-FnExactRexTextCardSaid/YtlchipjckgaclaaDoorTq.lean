/- Patterns as texts: RexText of the reference. -/
import Derived.Test.YtlchipjckgaclaaDoorTs
import Derived.Deep.RegionHeld3
namespace Go.Proofs.YtlchipjckgaclaaDoor
set_option linter.unusedSimpArgs false
set_option linter.unusedVariables false
set_option maxRecDepth 100000
open Go.RowKit

def kwCells : Array Value := #[.string (str (kw 0)), .string (str (kw 1)), .string (str (kw 2)), .string (str (kw 3)), .string (str (kw 4)), .string (str (kw 5)), .string (str (kw 6)), .string (str (kw 7))]
theorem kwCells_get (n : Nat) (h : n < 8) : kwCells[n]? = some (.string (str (kw n))) := by
  match n, h with
  | 0, _ => rfl
  | 1, _ => rfl
  | 2, _ => rfl
  | 3, _ => rfl
  | 4, _ => rfl
  | 5, _ => rfl
  | 6, _ => rfl
  | 7, _ => rfl
set_option maxHeartbeats 1000000 in
theorem sWords_c (w : World) :
    Calls Tryd.prog 81 #[] w fun e w' => ∃ g, e = .returned (.slice (some ⟨g, 0, none⟩) 8 8) ∧ (∀ n : Nat, n < 8 → w'.cell? ⟨g, n, none⟩ = some (.string (str (kw n)))) ∧ Below w.heap.size w w' := by
  go_enter Tryd.func81, Tryd.ntmps81
  go_wp2_with fail
  go_ret
  refine ⟨w.heap.size, rfl, fun n hn => ?_, below_alloc (Below.refl _ _) _⟩
  have := (blk_new w kwCells TStr).cell n
  rw [kwCells_get n hn] at this
  exact this

def TextOk (r : Rex) : Prop := ∀ (d : Nat) (v1 v2 : Value) (w : World) (lo : Nat), formed d r = true → RexV w lo r (.int .i64 r.kind) v1 v2 → r.size ≤ 1048576 →
  Calls Tryd.prog 47 #[.agg #[.int .i64 r.kind, v1, v2]] w fun e w' => e = .returned (.string (str (rexTxt r))) ∧ Below w.heap.size w w'
set_option maxHeartbeats 2000000 in
theorem sText_c (r : Rex) : TextOk r := by
  refine Rex.ind (p := TextOk) (fun k s ks ih => ?_) r
  intro d v1 v2 w lo hd h hsz
  obtain ⟨A, c, K, ck, _, rfl, rfl, hs, hk⟩ := h.parts
  dsimp only [Rex.kind, Rex.set, Rex.kids] at hs hk ⊢
  rw [Rex.size] at hsz
  clear h
  obtain ⟨hkk, _, hok, _, hfk⟩ := formed_node hd
  have HFK : Hid (∀ r, r ∈ ks → formed (d - 1) r = true) := hfk
  have H64 := Lib.hid (ok_64 hok)
  have HKL := Lib.hid (kid_len ks fun r hr => txt_len r (d - 1) (hfk r hr))
  have hk0 : k = 1 → ks = [] := fun e => by
    rcases kidsOf_cases hkk with ⟨_, e⟩ | ⟨e, _⟩ | ⟨e, _⟩
    · exact List.length_eq_zero_iff.1 e
    · omega
    · omega
  obtain ⟨n, rfl, hn8⟩ : ∃ n : Nat, k = n ∧ n < 8 := by
    rcases kidsOf_cases hkk with ⟨e, _⟩ | ⟨e, _⟩ | ⟨e, _⟩ <;> exact ⟨k.toNat, by omega, by omega⟩
  have HK0 := Lib.hid hk0
  obtain ⟨wa, hwa⟩ : ∃ x, x = w.alloc (.cells #[.int .i64 (n : Int), .slice A s.length c, .slice K ks.length ck] TRx) := ⟨_, rfl⟩
  have hb : Below w.heap.size w wa := by rw [hwa]; exact below_alloc (Below.refl _ _) _
  have m0 : Blk wa w.heap.size #[.int .i64 (n : Int), .slice A s.length c, .slice K ks.length ck] TRx := by rw [hwa]; exact blk_new w _ _
  replace hwa := hwa.symm
  have HK := Lib.hid hk
  have HS := Lib.hid hs
  have HB := Lib.hid hb
  have M0 := Lib.hid m0
  have HC : Hid (∀ w', Below wa.heap.size wa w' → w'.cell? ⟨w.heap.size, 0, none⟩ = some (.int .i64 (n : Int))) := fun w' hb' => ((m0.below hb').cell 0).trans rfl
  clear hs hk hd hok hfk hkk hk0 hb m0
  have i0 : (0 : Int) ≤ (n : Int) := by omega
  have i1 : (n : Int) < 8 := by omega
  go_enter Tryd.func47, Tryd.ntmps47
  go_wp2_with fail
  clear hwa
  refine wp_region_held_drew (S := fun w' => w'.cell? ⟨w.heap.size, 0, none⟩ = some (.int .i64 (n : Int))) (by kernel_rfl) (HC.out _ (below_drew (Below.refl _ _))) (fun hHeld0 => ?_)
  refine wpAnyH_take (i := 1) (v := ?_) rfl (by kernel_rfl) (by kernel_rfl) (by kernel_rfl) (fun _ _ _ h => h) (Or.inl ⟨by rfl, ?_⟩) (by assumption) ?_
  rotate_left
  · (intro w hSw; (try dsimp only at hSw); go_simp; try with_reducible rfl)
  try simp only [Act.put, List.getElem_toArray, List.getElem_cons_zero, List.getElem_cons_succ, List.setIfInBounds_toArray, List.set_cons_zero, List.set_cons_succ]
  refine wpAnyH_take (i := 2) (v := ?_) rfl (by kernel_rfl) (by kernel_rfl) (by kernel_rfl) (fun _ _ _ h => h) (Or.inl ⟨by rfl, ?_⟩) (by assumption) ?_
  rotate_left
  · (intro w hSw; (try dsimp only at hSw); go_simp; try with_reducible rfl)
  try simp only [Act.put, List.getElem_toArray, List.getElem_cons_zero, List.getElem_cons_succ, List.setIfInBounds_toArray, List.set_cons_zero, List.set_cons_succ]
  refine wpAnyH_ready (rs := [0]) (by kernel_rfl) (by simp) ?_
  refine AllReadyH.cons (o := ⟨some 5, _, _, _, _, _⟩) rfl (fun K hK => ?_) AllReadyH.nil
  go_simp
  refine (sWords_c wa.drew).mono ?_
  rintro e w1 ⟨g, rfl, hc, b1⟩
  have B1 := Lib.hid (below_then (below_drew (Below.refl wa.heap.size wa)) b1)
  obtain ⟨kwn, hkwn⟩ : ∃ l, l = kw (n : Int) := ⟨_, rfl⟩
  have c0 := hc n hn8
  rw [← hkwn] at c0
  have HKW := Lib.hid hkwn
  have hkl : kwn.length ≤ 5 := by rw [hkwn]; exact kw_len _
  have hz0 := str_size kwn
  clear hc b1 hkwn
  (try go_wp2_with fail)
  refine hK.out _ _ (HC.out w1 B1.out) (fun hHeld1 => ?_)
  clear hK K hHeld0
  try simp only [Act.put, List.getElem_toArray, List.getElem_cons_zero, List.getElem_cons_succ, List.setIfInBounds_toArray, List.set_cons_zero, List.set_cons_succ]
  refine wpAnyH_take (i := 3) (v := ?_) rfl (by kernel_rfl) (by kernel_rfl) (by kernel_rfl) (fun _ _ _ h => h) (Or.inl ⟨by rfl, ?_⟩) (by assumption) ?_
  rotate_left
  · (intro w hSw; (try dsimp only at hSw); go_simp; try with_reducible rfl)
  try simp only [Act.put, List.getElem_toArray, List.getElem_cons_zero, List.getElem_cons_succ, List.setIfInBounds_toArray, List.set_cons_zero, List.set_cons_succ]
  refine wpAnyH_ready (rs := [4]) (by kernel_rfl) (by simp) ?_
  refine AllReadyH.cons (o := ⟨some 9, _, _, _, _, _⟩) rfl (fun K hK => ?_) AllReadyH.nil
  go_simp
  refine hK.out _ _ (HC.out w1 B1.out) (fun hHeld2 => ?_)
  clear hK K hHeld1
  try simp only [Act.put, List.getElem_toArray, List.getElem_cons_zero, List.getElem_cons_succ, List.setIfInBounds_toArray, List.set_cons_zero, List.set_cons_succ]
  refine wpAnyH_take (i := 5) (v := ?_) rfl (by kernel_rfl) (by kernel_rfl) (by kernel_rfl) (fun _ _ _ h => h) (Or.inl ⟨by rfl, ?_⟩) (by assumption) ?_
  rotate_left
  · (intro w hSw; (try dsimp only at hSw); go_simp; try with_reducible rfl)
  try simp only [Act.put, List.getElem_toArray, List.getElem_cons_zero, List.getElem_cons_succ, List.setIfInBounds_toArray, List.set_cons_zero, List.set_cons_succ]
  refine wpAnyH_done (by kernel_rfl) ?_ _
  replace M0 := Lib.hid (M0.out.below B1.out)
  replace HB := Lib.hid (below_then HB.out B1.out)
  clear c0 HC hHeld2 i0 i1 B1
  by_cases h1 : n = 1
  · have d0 : ((n : Int) == 1) = true := by simp [h1]
    have E : Hid (rexTxt (.mk (n : Int) s ks) = (kwn ++ [32]) ++ setTxt s) := by
      show _ = _
      have e1 : (n : Int) = 1 := by omega
      rw [HKW.out, HK0.out e1, e1]
      exact rexTxt_set s
    have n0 : w1.cell? ⟨w.heap.size, 0, none⟩ = some (.int .i64 (n : Int)) := by rw [M0.out.cell]; rfl
    have n1 : w1.cell? ⟨w.heap.size, 1, none⟩ = some (.slice A s.length c) := by rw [M0.out.cell]; rfl
    clear h1
    go_wp2_with fail
    rw [str_app kwn 32]
    obtain ⟨m, hm⟩ : ∃ m, m = kwn ++ [32] := ⟨_, rfl⟩
    have hml : m.length ≤ 6 := by rw [hm, List.length_append]; simp; omega
    have HM := Lib.hid hm
    rw [← hm]
    have hz1 := str_size m
    have hz2 := str_size (setTxt s)
    have hsl : (setTxt s).length ≤ 44 * s.length + 2 := by
      unfold setTxt
      split
      · simp
      · have := acc_len s H64.out s.length (Nat.le_refl _)
        rw [List.take_length] at this
        omega
    clear hm
    refine (sSetText_c A c s w1 (HS.out.below HB.out) H64.out (by omega)).mono ?_
    rintro e w2 ⟨rfl, b2⟩
    clear n0 n1
    go_wp2_with fail
    go_ret
    refine ⟨?_, below_then HB.out b2⟩
    rw [E.out, ← HM.out]
    exact congrArg (fun x => Ending.returned (Value.string x)) (str_append m (setTxt s))
  · have d0 : ((n : Int) == 1) = false := by simp; omega
    have E : Hid (rexTxt (.mk (n : Int) s ks) = kwn ++ kidTxts ks) := by
      show _ = _
      rw [HKW.out]
      exact rexTxt_kids (by omega) s ks
    have n0 : w1.cell? ⟨w.heap.size, 0, none⟩ = some (.int .i64 (n : Int)) := by rw [M0.out.cell]; rfl
    clear h1
    go_wp2_with fail
    clear n0 d0
    go_loopg [3, 4] ks.length (fun n' v3 v4 wr => ∃ j : Nat, j + n' = ks.length ∧ v4 = .int .i64 j ∧ ∃ acc : List UInt8, v3 = .string (str acc) ∧ Hid (acc = kwn ++ kidTxts (ks.take j)) ∧ Hid (Blk wr w.heap.size #[.int .i64 (n : Int), .slice A s.length c, .slice K ks.length ck] TRx) ∧ Hid (Below w.heap.size w wr))
    case atStart => exact ⟨0, by omega, rfl, kwn, rfl, by show _ = _; simp [kidTxts], M0, HB⟩
    case round =>
      clear M0 HB
      obtain ⟨j, hj, rfl, acc, rfl, HA, M0, HB⟩ := hrel
      have n2 : wr.cell? ⟨w.heap.size, 2, none⟩ = some (.slice K ks.length ck) := by rw [M0.out.cell]; rfl
      by_cases hlt : j < ks.length
      · obtain ⟨a, r, x1, x2, rfl, HX, HD, HV, c0, c1, c2⟩ := (HK.out.below HB.out).at_ j hlt
        obtain ⟨A2', q2, K2, d2, _, rfl, rfl, _⟩ := HV.out.parts
        have hmem := List.mem_of_getElem? HX.out
        have hks := sizeL_kid hmem
        have hkt := kidTxts_le ks j
        have hal : acc.length ≤ 100000000 := by have := HKL.out; rw [HA.out, List.length_append]; omega
        have htl : (rexTxt r).length ≤ 100000000 := by have := txt_len r (d - 1) (HFK.out r hmem); omega
        have hz1 := str_size acc
        have hz2 := str_size (rexTxt r)
        have i0 : (0 : Int) ≤ (j : Int) := by omega
        have i1 : (j : Int) < (ks.length : Int) := by omega
        go_wp2_with fail
        rw [str_app acc 32]
        obtain ⟨m, hm⟩ : ∃ m, m = acc ++ [32] := ⟨_, rfl⟩
        have hml : m.length ≤ 100000001 := by rw [hm, List.length_append]; simp; omega
        have HM := Lib.hid hm
        rw [← hm]
        have hz3 := str_size m
        clear hm
        refine (ih r hmem (d - 1) _ _ wr lo (HFK.out r hmem) HV.out (by omega)).mono ?_
        rintro e w2 ⟨rfl, b2⟩
        clear c0 c1 c2 n2
        go_wp2_with fail
        go_roundg (gk - 1)
        case measure => omega
        case rel =>
          refine ⟨j + 1, by omega, by go_num, m ++ rexTxt r, by rw [str_append], ?_, M0.out.below b2, below_then HB.out b2⟩
          show _ = _
          rw [HM.out, HA.out, kidTxts_take HX.out]
          simp
      · have hj' : j = ks.length := by omega
        subst hj'
        rw [List.take_length] at HA
        go_wp2_with fail
        go_ret
        exact ⟨by rw [E.out, ← HA.out]; rfl, HB.out⟩
set_option maxHeartbeats 1000000 in
theorem sRexText_c (r : Rex) (v1 v2 : Value) (w : World) (lo : Nat) (h : RexV w lo r (.int .i64 r.kind) v1 v2) (hsz : r.size ≤ 1048576) :
    Calls Tryd.prog 15 #[.agg #[.int .i64 r.kind, v1, v2]] w fun e w' => e = .returned (.string (str (rexText r))) ∧ Below w.heap.size w w' := by
  obtain ⟨A, c, K, ck, _, rfl, rfl, _, _⟩ := h.parts
  obtain ⟨wa, hwa⟩ : ∃ x, x = w.alloc (.cells #[.int .i64 r.kind, .slice A r.set.length c, .slice K r.kids.length ck] TRx) := ⟨_, rfl⟩
  have hb : Below w.heap.size w wa := by rw [hwa]; exact below_alloc (Below.refl _ _) _
  have m0 : Blk wa w.heap.size #[.int .i64 r.kind, .slice A r.set.length c, .slice K r.kids.length ck] TRx := by rw [hwa]; exact blk_new w _ _
  have HV := Lib.hid (h.under hb)
  have HB := Lib.hid hb
  have M0 := Lib.hid m0
  clear m0 h hb
  replace hwa := hwa.symm
  have n0 : wa.cell? ⟨w.heap.size, 0, none⟩ = some (.int .i64 r.kind) := by rw [M0.out.cell]; rfl
  have n0' : wa.cell? ⟨w.heap.size, 1, none⟩ = some (.slice A r.set.length c) := by rw [M0.out.cell]; rfl
  have n0'' : wa.cell? ⟨w.heap.size, 2, none⟩ = some (.slice K r.kids.length ck) := by rw [M0.out.cell]; rfl
  go_enter Tryd.func15, Tryd.ntmps15
  go_wp2_with fail
  clear hwa
  refine (sRexOk_c _ _ _ _ _ HV.out hsz).mono ?_
  rintro e w1 ⟨rfl, b1⟩
  replace M0 := Lib.hid (M0.out.below b1)
  have H1 := Lib.hid b1
  clear n0 n0' n0'' b1
  have n0 : w1.cell? ⟨w.heap.size, 0, none⟩ = some (.int .i64 r.kind) := by rw [M0.out.cell]; rfl
  have n0' : w1.cell? ⟨w.heap.size, 1, none⟩ = some (.slice A r.set.length c) := by rw [M0.out.cell]; rfl
  have n0'' : w1.cell? ⟨w.heap.size, 2, none⟩ = some (.slice K r.kids.length ck) := by rw [M0.out.cell]; rfl
  by_cases hf : rexOk r = true
  · have HF := Lib.hid hf
    rw [hf]
    clear hf
    go_wp2_with fail
    refine (sText_c r 8 _ _ w1 lo (rexOk_formed HF.out) (HV.out.under H1.out) hsz).mono ?_
    rintro e w2 ⟨rfl, b2⟩
    clear n0 n0' n0''
    go_wp2_with fail
    go_ret
    exact ⟨by rw [rexText, if_pos HF.out]; rfl, below_then HB.out (below_then H1.out b2)⟩
  · have HF := Lib.hid hf
    rw [show rexOk r = false by simpa using hf]
    clear hf
    go_wp2_with fail
    go_ret
    exact ⟨by rw [rexText, if_neg HF.out]; rfl, below_then HB.out H1.out⟩

end Go.Proofs.YtlchipjckgaclaaDoor
