/- setsOf of the program, walked. -/
import Derived.Test.YtiaccimbkghofaaSS4
namespace Go.Proofs.Ytiaccimbkghofaa
set_option linter.unusedSimpArgs false
set_option linter.unusedVariables false
open Go.RowKit

theorem slice_one (A : Option Addr) (n c : Nat) : ∀ u ∈ [Value.slice A n c], u.oneCell' = true := by
  intro u hu
  simp at hu
  subst hu
  rfl
theorem below_alloc' {w w' : World} (h : Below w.heap.size w w') (o : Obj) : Below w.heap.size w (w'.alloc o) := below_alloc h o
def SetsOk (r : Rex) : Prop := ∀ (v1 v2 v : Value) (w0 w : World) (lo : Nat) (fp : List Nat) (xss : List (List Sp)) (L : List Value), RexV w0 lo r (.int .i64 r.kind) v1 v2 → Below w0.heap.size w0 w → OwnSS w fp v xss L → (∀ b, b ∈ fp → w0.heap.size ≤ b) →
  r.size ≤ 1048576 → xss.length + r.many ≤ 1000000 →
  Calls Try.prog 62 #[.agg #[.int .i64 r.kind, v1, v2], v] w fun e w' => ∃ v' fp' L', e = .returned v' ∧ OwnSS w' fp' v' (xss ++ setsOf r) L' ∧ Below w0.heap.size w0 w' ∧ ∀ b, b ∈ fp' → w0.heap.size ≤ b

set_option maxHeartbeats 400000 in
theorem iSets_c (r : Rex) : SetsOk r := by
  refine Rex.ind (p := SetsOk) (fun k s ks ih => ?_) r
  intro v1 v2 v w0 w lo fp xss L h hbel ho hfp hsz hmn
  obtain ⟨A, c, K, ck, _, rfl, rfl, hs, hk⟩ := h.parts
  dsimp only [Rex.kind, Rex.set, Rex.kids] at hs hk ⊢
  rw [Rex.size] at hsz
  rw [Rex.many] at hmn
  clear h
  obtain ⟨wa, hwa⟩ : ∃ x, x = w.alloc (.cells #[.int .i64 k, .slice A s.length c, .slice K ks.length ck] TRx) := ⟨_, rfl⟩
  have hb : Below w.heap.size w wa := by rw [hwa]; exact below_alloc (Below.refl _ _) _
  have m0 : Blk wa w.heap.size #[.int .i64 k, .slice A s.length c, .slice K ks.length ck] TRx := by rw [hwa]; exact blk_new w _ _
  replace hwa := hwa.symm
  have HK := Lib.hid hk
  have HS := Lib.hid hs
  have HB0 := Lib.hid (below_then hbel hb)
  have HO := Lib.hid (ho.under hb)
  have M0 := Lib.hid m0
  have HF : Hid (∀ b, b ∈ fp → w0.heap.size ≤ b) := hfp
  have HLT : Hid (∀ b, b ∈ fp → b < w.heap.size) := ho.lt
  have HWA : Hid (w.heap.size ≤ wa.heap.size) := hb.size
  have HBB : Hid (∀ q, v.ownBlock = some q → q ≠ w.heap.size) := fun q hq e => by have := ho.lt q (by rw [ho.fe]; exact List.mem_append_left _ (mem_vblk.2 hq)); omega
  have n0 : wa.cell? ⟨w.heap.size, 0, none⟩ = some (.int .i64 k) := by rw [m0.cell]; rfl
  have n1 : wa.cell? ⟨w.heap.size, 1, none⟩ = some (.slice A s.length c) := by rw [m0.cell]; rfl
  have n2 : wa.cell? ⟨w.heap.size, 2, none⟩ = some (.slice K ks.length ck) := by rw [m0.cell]; rfl
  clear hb m0 hs hk hbel ho hfp
  by_cases h1 : k = 1
  · subst h1
    have d0 : setsOf (.mk 1 s ks) = [s] ++ setsOfL ks := by rw [setsOf, if_pos rfl]
    rw [d0, ← List.append_assoc]
    obtain ⟨yss, hys⟩ : ∃ y, y = xss ++ [s] := ⟨_, rfl⟩
    rw [← hys]
    replace hys := Lib.hid hys
    obtain ⟨i1, hi, hz0, hza, hz2⟩ := info_parts infoSS
    go_enter Try.func62, Try.ntmps62
    go_wp2_with fail
    clear hwa
    refine (copiedSpan_c A c s.length (spcs s) _ (HS.out.below HB0.out).row (spcs_length _) (spcs_one _) (by omega)).mono ?_
    rintro e w2 ⟨vS, rfl, oS, bS⟩
    obtain ⟨A1, c1, rfl, _, _⟩ := own_row oS
    replace M0 := Lib.hid (M0.out.below bS)
    have HO2 := Lib.hid (HO.out.under bS)
    have HOS := Lib.hid oS
    have B2 := Lib.hid (below_then HB0.out bS)
    have BS := Lib.hid bS
    have H2 := Lib.hid ((HO.out.under bS).hk)
    have n2' : w2.cell? ⟨w.heap.size, 2, none⟩ = some (.slice K ks.length ck) := by rw [M0.out.cell]; rfl
    clear n0 n1 n2 oS bS
    go_wp2_with (first
      | (refine wpList_append_row (by rfl) (.tmp 10) (.tmp 14) 37 (by rfl) 0 TSS i1 nilS 1 24 Try.underlying37 hi hz0 hza hz2 rfl (by decide) v xss.length L (by rfl) (own_below H2.out (below_alloc (Below.refl _ _) _)) (some ⟨w2.heap.size, 0, none⟩) 1 1 [.slice A1 s.length c1] (by rfl) (.inr ⟨⟨w2.heap.size, 0, none⟩, rfl, Nat.zero_le _, new_cells w2 [.slice A1 s.length c1] TSS⟩) rfl (slice_one _ _ _) (by unfold maxLen; omega) (by omega) (Nat.zero_le _) _ rfl (xss.length + 1) rfl ?_; intro A5 c5 wE hown hgrow hat; have ZB := (M0.out.alloc (.cells #[.slice A1 s.length c1] TSS)).grown hgrow HBB.out; have n2 := (ZB.cell 2).trans rfl; have HE := Lib.hid hown; have HG := Lib.hid hgrow; have HAT := Lib.hid hat; clear hown hgrow hat ZB))
    clear n2'
    have hy : yss.length ≤ xss.length + 1 := by rw [hys.out]; simp
    have hos : OwnSp w2 0 (Value.slice A1 s.length c1) s := ⟨own_lower HOS.out (Nat.zero_le _), HS.out.len⟩
    have hvs : ∀ b, b ∈ vblk (Value.slice A1 s.length c1) → wa.heap.size ≤ b := fun b hb => (HOS.out.lt b (mem_vblk.1 hb)).1
    have hfl : ∀ b, b ∈ [Value.slice A1 s.length c1].flatMap vblk → b ∈ vblk (Value.slice A1 s.length c1) := fun b hb => by simpa using hb
    have happ := (HO2.out.under (below_alloc (Below.refl _ _) (.cells #[Value.slice A1 s.length c1] TSS))).app (yss := [s]) (M := [Value.slice A1 s.length c1]) rfl (fun i ys y hi hy => by
      match i with
      | 0 => simp at hi hy; subst hi hy; exact hos.below (below_alloc (Below.refl _ _) _)
      | i + 1 => simp at hi) (by simpa using vblk_nodup _) (fun b hb hf => by have h1 := hvs b (hfl b hb); have h2 := HLT.out b hf; have h3 := HWA.out; omega) HE.out HG.out HAT.out (by unfold maxN; simp; omega)
    have HO' : Hid (OwnSS wE (vblk (Value.slice A5 (xss.length + 1) c5) ++ (L ++ [Value.slice A1 s.length c1]).flatMap vblk) (Value.slice A5 (xss.length + 1) c5) yss (L ++ [Value.slice A1 s.length c1])) := by show OwnSS _ _ _ _ _; rw [hys.out]; exact happ
    have hvf : ∀ b, b ∈ vblk v → b ∈ fp := fun b hb => by rw [HO2.out.fe]; exact List.mem_append_left _ hb
    have HF' : Hid (∀ b, b ∈ vblk (Value.slice A5 (xss.length + 1) c5) ++ (L ++ [Value.slice A1 s.length c1]).flatMap vblk → w0.heap.size ≤ b) := fun b hb => by
      rw [List.flatMap_append] at hb
      have h0 := HB0.out.size
      have h2 := B2.out.size
      rcases List.mem_append.1 hb with hb | hb
      · rcases HAT.out b hb with hb | hb
        · exact HF.out b (hvf b hb)
        · simp at hb; omega
      · rcases List.mem_append.1 hb with hb | hb
        · exact HF.out b (by rw [HO2.out.fe]; exact List.mem_append_right _ hb)
        · have := hvs b (hfl b hb); omega
    have HB' : Hid (Below w0.heap.size w0 wE) := (below_alloc' B2.out _).grown HG.out (by simp; have := B2.out.size; omega) (fun q hq => HF.out q (hvf q (mem_vblk.2 hq)))
    clear HO HF HB0 happ hos hvs hfl hvf HO2 HOS HE HG HAT H2 HBB HLT B2 BS hi hz0 hza hz2 M0
    have HO := HO'
    have HF := HF'
    have HB0 := HB'
    clear HO' HF' HB'
    go_loopg [1, 19] (ks.length) (fun n v i wr => ∃ j : Nat, j + n = ks.length ∧ i = .int .i64 j ∧ ∃ (fp : List Nat) (L : List Value), Hid (OwnSS wr fp v (yss ++ setsOfL (ks.take j)) L) ∧ Hid (∀ b, b ∈ fp → w0.heap.size ≤ b) ∧ Hid (Below w0.heap.size w0 wr))
    case atStart => exact ⟨0, by omega, rfl, _, _, by simpa [setsOfL, Hid] using HO.out, HF, HB0⟩
    case round =>
      clear HO HF HB0
      obtain ⟨j, hj, rfl, fp, L, HO, HF, HB0⟩ := hrel
      by_cases hlt : j < ks.length
      · obtain ⟨a, r, x1, x2, rfl, HX, HD, HV, e0, e1, e2⟩ := HK.out.at_ j hlt
        obtain ⟨A2, q2, K2, d2, _, rfl, rfl, _⟩ := HV.out.parts
        have c0 := (HB0.out.cell (World.block_lt_of_cell? w0 _ e0)).trans e0
        have c1 := (HB0.out.cell (World.block_lt_of_cell? w0 _ e1)).trans e1
        have c2 := (HB0.out.cell (World.block_lt_of_cell? w0 _ e2)).trans e2
        have hmem := List.mem_of_getElem? HX.out
        have hks := size_kid hmem
        have hmt := manyL_take ks j HX.out
        have hst := setsL_many (ks.take j)
        have i0 : (0 : Int) ≤ (j : Int) := by omega
        have i1 : (j : Int) < (ks.length : Int) := by omega
        clear e0 e1 e2
        go_wp2_with fail
        refine (ih r hmem _ _ _ w0 _ lo fp _ L HV.out (below_alloc' HB0.out _) (HO.out.under (below_alloc (Below.refl _ _) _)) HF.out (by omega) (by rw [List.length_append]; omega)).mono ?_
        rintro e w1 ⟨v', fp', L', rfl, o', b', f'⟩
        have HO' : Hid (OwnSS w1 fp' v' (yss ++ setsOfL (ks.take (j + 1))) L') := by show OwnSS _ _ _ _ _; rw [setsOfL_take HX.out, ← List.append_assoc]; exact o'
        have HB' := Lib.hid b'
        have HF' : Hid (∀ b, b ∈ fp' → w0.heap.size ≤ b) := f'
        clear c0 c1 c2 o' b' f'
        go_wp2
        go_roundg (gk - 1)
        case measure => omega
        case rel => exact ⟨j + 1, by omega, by go_num, fp', L', HO', HF', HB'⟩
      · have hj' : j = ks.length := by omega
        subst hj'
        rw [List.take_length] at HO
        go_wp2
        go_ret
        exact ⟨_, fp, L, rfl, HO.out, HB0.out, HF.out⟩
  · have d0 : setsOf (.mk k s ks) = setsOfL ks := by rw [setsOf, if_neg h1]; rfl
    have hk1 : (k == 1) = false := by simp [h1]
    rw [d0]
    clear h1
    obtain ⟨yss, hys⟩ : ∃ y, y = xss := ⟨_, rfl⟩
    rw [← hys] at HO ⊢
    have hy : yss.length ≤ xss.length + 1 := by rw [hys]; omega
    replace hys := Lib.hid hys
    go_enter Try.func62, Try.ntmps62
    go_wp2_with fail
    clear hwa
    go_loopg [1, 19] (ks.length) (fun n v i wr => ∃ j : Nat, j + n = ks.length ∧ i = .int .i64 j ∧ ∃ (fp : List Nat) (L : List Value), Hid (OwnSS wr fp v (yss ++ setsOfL (ks.take j)) L) ∧ Hid (∀ b, b ∈ fp → w0.heap.size ≤ b) ∧ Hid (Below w0.heap.size w0 wr))
    case atStart => exact ⟨0, by omega, rfl, _, _, by simpa [setsOfL, Hid] using HO.out, HF, HB0⟩
    case round =>
      clear HO HF HB0
      obtain ⟨j, hj, rfl, fp, L, HO, HF, HB0⟩ := hrel
      by_cases hlt : j < ks.length
      · obtain ⟨a, r, x1, x2, rfl, HX, HD, HV, e0, e1, e2⟩ := HK.out.at_ j hlt
        obtain ⟨A2, q2, K2, d2, _, rfl, rfl, _⟩ := HV.out.parts
        have c0 := (HB0.out.cell (World.block_lt_of_cell? w0 _ e0)).trans e0
        have c1 := (HB0.out.cell (World.block_lt_of_cell? w0 _ e1)).trans e1
        have c2 := (HB0.out.cell (World.block_lt_of_cell? w0 _ e2)).trans e2
        have hmem := List.mem_of_getElem? HX.out
        have hks := size_kid hmem
        have hmt := manyL_take ks j HX.out
        have hst := setsL_many (ks.take j)
        have i0 : (0 : Int) ≤ (j : Int) := by omega
        have i1 : (j : Int) < (ks.length : Int) := by omega
        clear e0 e1 e2
        go_wp2_with fail
        refine (ih r hmem _ _ _ w0 _ lo fp _ L HV.out (below_alloc' HB0.out _) (HO.out.under (below_alloc (Below.refl _ _) _)) HF.out (by omega) (by rw [List.length_append]; omega)).mono ?_
        rintro e w1 ⟨v', fp', L', rfl, o', b', f'⟩
        have HO' : Hid (OwnSS w1 fp' v' (yss ++ setsOfL (ks.take (j + 1))) L') := by show OwnSS _ _ _ _ _; rw [setsOfL_take HX.out, ← List.append_assoc]; exact o'
        have HB' := Lib.hid b'
        have HF' : Hid (∀ b, b ∈ fp' → w0.heap.size ≤ b) := f'
        clear c0 c1 c2 o' b' f'
        go_wp2
        go_roundg (gk - 1)
        case measure => omega
        case rel => exact ⟨j + 1, by omega, by go_num, fp', L', HO', HF', HB'⟩
      · have hj' : j = ks.length := by omega
        subst hj'
        rw [List.take_length] at HO
        go_wp2
        go_ret
        exact ⟨_, fp, L, rfl, HO.out, HB0.out, HF.out⟩

end Go.Proofs.Ytiaccimbkghofaa
