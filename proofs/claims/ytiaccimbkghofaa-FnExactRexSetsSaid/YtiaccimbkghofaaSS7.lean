/- l2Sets, RexSets of the reference. -/
import Derived.Test.YtiaccimbkghofaaSS6
import Derived.Test.YtiaccimbkghofaaC2
namespace Go.Proofs.Ytiaccimbkghofaa
set_option linter.unusedSimpArgs false
set_option linter.unusedVariables false
open Go.RowKit

def L2Ok (r : Rex) : Prop := ∀ (v1 v2 : Value) (w : World) (lo : Nat), RexV w lo r (.int .i64 r.kind) v1 v2 → r.size ≤ 1048576 → r.many ≤ 1000000 →
  Calls Try.prog 60 #[.agg #[.int .i64 r.kind, v1, v2]] w fun e w' => ∃ v fp L, e = .returned v ∧ OwnSS w' fp v (setsOf r) L ∧ (∀ b, b ∈ fp → w.heap.size ≤ b) ∧ Below w.heap.size w w'
theorem own_ee (w : World) : OwnSS (w.alloc (.cells #[] TSS)) [w.heap.size] (.slice (some ⟨w.heap.size, 0, none⟩) 0 0) [] [] :=
  ⟨rfl, ⟨rfl, .inr ⟨w.heap.size, 0, #[], rfl, Nat.zero_le _, heap_alloc_new w _, Nat.le_refl _, by unfold maxLen; omega, rfl, rfl⟩⟩, by simp, fun i xs x h => by simp at h, rfl, by simp⟩

theorem OwnSS.touch {w w' : World} {fp f : List Nat} {v : Value} {xss : List (List Sp)} {L : List Value} (h : OwnSS w fp v xss L) (ht : Touch f w w') (hd : ∀ b, b ∈ fp → b ∉ f) : OwnSS w' fp v xss L := h.stay fun b hb => ht.block b (h.lt b hb) (hd b hb)
set_option maxHeartbeats 1000000 in
theorem sL2Sets_c (r : Rex) : L2Ok r := by
  refine Rex.ind (p := L2Ok) (fun k s ks ih => ?_) r
  intro v1 v2 w lo h hsz hmn
  obtain ⟨A, c, K, ck, _, rfl, rfl, hs, hk⟩ := h.parts
  dsimp only [Rex.kind, Rex.set, Rex.kids] at hs hk ⊢
  rw [Rex.size] at hsz
  rw [Rex.many] at hmn
  clear h
  obtain ⟨wa, hwa⟩ : ∃ x, x = (w.alloc (.cells #[.int .i64 k, .slice A s.length c, .slice K ks.length ck] TRx)).alloc (.cells #[] TSS) := ⟨_, rfl⟩
  have hb : Below w.heap.size w wa := by rw [hwa]; exact below_alloc (below_alloc (Below.refl _ _) _) _
  have m0 : Blk wa w.heap.size #[.int .i64 k, .slice A s.length c, .slice K ks.length ck] TRx := by rw [hwa]; exact (blk_new w _ _).alloc _
  have ho : OwnSS wa [w.heap.size + 1] (.slice (some ⟨w.heap.size + 1, 0, none⟩) 0 0) [] [] := by
    rw [hwa]
    have := own_ee (w.alloc (.cells #[.int .i64 k, .slice A s.length c, .slice K ks.length ck] TRx))
    simpa using this
  have hza0 : wa.heap.size = w.heap.size + 2 := by rw [hwa]; simp
  replace hwa := hwa.symm
  have HK := Lib.hid hk
  have HS := Lib.hid hs
  have HB0 := Lib.hid hb
  have HO := Lib.hid ho
  have M0 := Lib.hid m0
  have HZA := Lib.hid hza0
  have HF : Hid (∀ b, b ∈ [w.heap.size + 1] → w.heap.size + 1 ≤ b) := fun b hb => by simp at hb; omega
  have HLT : Hid (w.heap.size < wa.heap.size) := by show _ < _; omega
  have n0 : wa.cell? ⟨w.heap.size, 0, none⟩ = some (.int .i64 k) := by rw [m0.cell]; rfl
  have n1 : wa.cell? ⟨w.heap.size, 1, none⟩ = some (.slice A s.length c) := by rw [m0.cell]; rfl
  have n2 : wa.cell? ⟨w.heap.size, 2, none⟩ = some (.slice K ks.length ck) := by rw [m0.cell]; rfl
  obtain ⟨k1, hk1'⟩ : ∃ x, x = k := ⟨_, rfl⟩
  obtain ⟨i1', hi, hz0, hza, hz2⟩ := info_parts infoSS
  clear hb m0 hs hk ho hza0
  by_cases h1 : k = 1
  · subst h1
    have d0 : setsOf (.mk 1 s ks) = [s] ++ setsOfL ks := by rw [setsOf, if_pos rfl]
    rw [d0]
    clear d0
    obtain ⟨yss, hys⟩ : ∃ y : List (List Sp), y = [s] := ⟨_, rfl⟩
    have hy : yss.length ≤ 1 := by rw [hys]; simp
    rw [← hys]
    replace hys := Lib.hid hys
    rw [← hk1'] at M0
    replace hk1' := Lib.hid hk1'
    obtain ⟨i0', gi, gz0, gza, gz2⟩ := info_parts infoSp
    have na := fun o => cell_alloc n1 o
    have hsl : s.length ≤ 1048576 := by omega
    go_enter Try.func60, Try.ntmps60
    go_wp2_with (first
      | (refine wpList_append_row (by rfl) (.tmp 10) (.tmp 12) 28 (by rfl) 0 TSp i0' (.agg #[.int .i64 0, .int .i64 0]) 2 16 Try.underlying28 gi gz0 gza gz2 rfl (by decide) (.slice (some ⟨wa.heap.size, 0, none⟩) 0 0) 0 [] (by rfl) (own_e wa (Nat.zero_le _)) A s.length c (spcs s) (by rfl) ((HS.out.below HB0.out).below (below_alloc (Below.refl _ _) _)).row (spcs_length _) (spcs_one _) (by unfold maxLen; omega) (by omega) (Nat.zero_le _) _ rfl s.length (by omega) ?_; intro AS cS w2 hownS hgrowS hatS; have T2 := Touch.of_grown hgrowS; have O2 := Lib.hid ((HO.out.under (below_alloc (Below.refl _ _) E0)).touch T2 (fun b hb => by have := HZA.out; rw [vblk_some]; simp at hb ⊢; omega)); have M2 := Lib.hid ((M0.out.alloc E0).touch T2 (by have := HZA.out; rw [vblk_some]; simp; omega)); have HES := Lib.hid hownS; have HGS := Lib.hid hgrowS; have HATS := Lib.hid hatS; have H2 := Lib.hid (own_below O2.out.hk (below_alloc (Below.refl _ _) (.cells #[.slice AS s.length cS] TSS))); clear T2 hownS hgrowS hatS)
      | (refine wpList_append_row (by rfl) (.tmp 9) (.tmp 14) 37 (by rfl) 0 TSS i1' nilS 1 24 Try.underlying37 hi hz0 hza hz2 rfl (by decide) (.slice (some ⟨w.heap.size + 1, 0, none⟩) 0 0) 0 [] (by rfl) H2.out (some ⟨w2.heap.size, 0, none⟩) 1 1 [.slice AS s.length cS] (by rfl) (.inr ⟨⟨w2.heap.size, 0, none⟩, rfl, Nat.zero_le _, new_cells w2 [.slice AS s.length cS] TSS⟩) rfl (slice_one _ _ _) (by unfold maxLen; omega) (by omega) (Nat.zero_le _) _ rfl 1 rfl ?_; intro A5 c5 wE hown hgrow hat; have ZB := (M2.out.alloc (.cells #[.slice AS s.length cS] TSS)).grown hgrow (fun q hq e => by rw [← mem_vblk, vblk_some] at hq; simp at hq; omega); have ne := (ZB.cell 2).trans rfl; have ME := Lib.hid ZB; have HE := Lib.hid hown; have HG := Lib.hid hgrow; have HAT := Lib.hid hat; clear hown hgrow hat ZB))
    clear n0 n1 n2 na ne
    have hzw := HZA.out
    have hvs : ∀ b, b ∈ vblk (Value.slice AS s.length cS) → wa.heap.size ≤ b := fun b hb => by
      rcases HATS.out b hb with h | h
      · rw [vblk_some] at h; simp at h; omega
      · simp at h; omega
    have hos : OwnSp w2 0 (Value.slice AS s.length cS) s := ⟨by simpa using HES.out, (HS.out).len⟩
    have hfl : ∀ b, b ∈ [Value.slice AS s.length cS].flatMap vblk → b ∈ vblk (Value.slice AS s.length cS) := fun b hb => by simpa using hb
    have happ := (O2.out.under (below_alloc (Below.refl _ _) (.cells #[.slice AS s.length cS] TSS))).app (yss := [s]) (M := [Value.slice AS s.length cS]) rfl (fun i ys y hi hy => by
      match i with
      | 0 => simp at hi hy; subst hi hy; exact hos.below (below_alloc (Below.refl _ _) _)
      | i + 1 => simp at hi) (by simpa using vblk_nodup _) (fun b hb hf => by have h1 := hvs b (hfl b hb); simp at hf; omega) (by simpa using HE.out) HG.out HAT.out (by unfold maxN; simp)
    have HB1 : Hid (Below w.heap.size w w2) := (below_alloc' HB0.out E0).grown HGS.out (by simp; omega) (fun q hq => by rw [← mem_vblk, vblk_some] at hq; simp at hq; omega)
    have HB' : Hid (Below w.heap.size w wE) := (below_alloc' HB1.out _).grown HG.out (by simp; have := HB1.out.size; omega) (fun q hq => by rw [← mem_vblk, vblk_some] at hq; simp at hq; omega)
    have HF' : Hid (∀ b, b ∈ vblk (Value.slice A5 1 c5) ++ [Value.slice AS s.length cS].flatMap vblk → w.heap.size + 1 ≤ b) := fun b hb => by
      have h1 := HB1.out.size
      have h2 := HGS.out.size
      simp only [World.size_alloc] at h2
      rcases List.mem_append.1 hb with hb | hb
      · rcases HAT.out b hb with hb | hb
        · rw [vblk_some] at hb; simp at hb; omega
        · simp at hb; omega
      · have := hvs b (hfl b hb); omega
    have HLT' : Hid (w.heap.size < wE.heap.size) := ME.out.lt
    have HN : Hid (1 = (yss ++ setsOfL (ks.take 0)).length) := by rw [hys.out]; exact rfl
    have HO' : OwnSS wE (vblk (Value.slice A5 1 c5) ++ [Value.slice AS s.length cS].flatMap vblk) (Value.slice A5 1 c5) yss [Value.slice AS s.length cS] := by rw [hys.out]; exact happ
    clear happ hos hvs hfl HB1 HB0 HF HO HLT M0 hzw O2 M2 HES HGS HATS H2 HE HG HAT gi gz0 gza gz2
    have HO := Lib.hid HO'
    have HB0 := HB'
    have HF := HF'
    have HLT := HLT'
    have M0 := ME
    clear HO' HB' HF' HLT' ME
    go_loopg [3, 4] (ks.length) (fun n v i wr => ∃ j : Nat, j + n = ks.length ∧ i = .int .i64 j ∧ ∃ (A2 : Option Addr) (n2 c2 : Nat) (fp : List Nat) (L : List Value), v = .slice A2 n2 c2 ∧ Hid (n2 = (yss ++ setsOfL (ks.take j)).length) ∧ Hid (OwnSS wr fp (.slice A2 n2 c2) (yss ++ setsOfL (ks.take j)) L) ∧ Hid (∀ b, b ∈ fp → w.heap.size + 1 ≤ b) ∧ Hid (Below w.heap.size w wr) ∧ Hid (Blk wr w.heap.size #[.int .i64 k1, .slice A s.length c, .slice K ks.length ck] TRx) ∧ Hid (w.heap.size < wr.heap.size))
    case atStart => exact ⟨0, by omega, rfl, _, _, _, _, _, rfl, HN, by simpa [setsOfL, Hid] using HO, HF, HB0, M0, HLT⟩
    case round =>
      clear HO HF HB0 M0 HN HLT
      obtain ⟨j, hj, rfl, A2, n2, c2, fp, L, rfl, HN, HO, HF, HB0, M0, HLT⟩ := hrel
      have m2 : wr.cell? ⟨w.heap.size, 2, none⟩ = some (.slice K ks.length ck) := by rw [M0.out.cell]; rfl
      by_cases hlt : j < ks.length
      · obtain ⟨a, r, x1, x2, rfl, HX, HD, HV, c0, c1, c2'⟩ := (HK.out.below HB0.out).at_ j hlt
        obtain ⟨A3, q3, K3, d3, _, rfl, rfl, _⟩ := HV.out.parts
        have hmem := List.mem_of_getElem? HX.out
        have hks := size_kid hmem
        have hmt := manyL_take ks j HX.out
        have hst := setsL_many (ks.take j)
        have hsm := sets_many r
        have i0 : (0 : Int) ≤ (j : Int) := by omega
        have i1 : (j : Int) < (ks.length : Int) := by omega
        clear hlt
        go_wp2_with fail
        refine (ih r hmem _ _ wr lo HV.out (by omega) (by omega)).mono ?_
        rintro e w1 ⟨v', fp', L', rfl, o', f', b'⟩
        obtain ⟨K4, d4, rfl, _, hrow4⟩ := own_row o'.hk
        have hn4 : n2 + (setsOf r).length ≤ 1000001 := by have := HN.out; rw [List.length_append] at this; omega
        have HR4 := Lib.hid hrow4
        have HO' := Lib.hid o'
        have HL' := Lib.hid o'.hL
        have HB' := Lib.hid b'
        have HF' : Hid (∀ b, b ∈ fp' → wr.heap.size ≤ b) := f'
        have HO1 := Lib.hid (HO.out.under b')
        have H1 : Hid (w1.ownsRow 0 TSS 1 (.slice A2 n2 c2) n2 L) := by have := HO1.out.hk; rw [← HN.out] at this; exact this
        have HFL : Hid (∀ b, b ∈ fp → b < wr.heap.size) := HO.out.lt
        have M1 := Lib.hid (M0.out.below b')
        clear c0 c1 c2' o' f' b' m2 hrow4 M0
        go_wp2_with (first
          | (refine wpList_append_row (by rfl) (.tmp 23) (.tmp 29) 37 (by rfl) 0 TSS i1' nilS 1 24 Try.underlying37 hi hz0 hza hz2 rfl (by decide) (.slice A2 n2 c2) n2 L (by rfl) H1.out K4 (setsOf r).length d4 L' (by rfl) HR4.out (by rw [← HL'.out]; omega) HO'.out.ones (by unfold maxLen; omega) (by omega) (Nat.zero_le _) _ rfl (n2 + (setsOf r).length) rfl ?_; intro A5 c5 wE hown hgrow hat; have HE := Lib.hid hown; have HG := Lib.hid hgrow; have HAT := Lib.hid hat; clear hown hgrow hat))
        have hvf : ∀ b, b ∈ vblk (Value.slice A2 n2 c2) → b ∈ fp := fun b hb => by rw [HO1.out.fe]; exact List.mem_append_left _ hb
        have hvf' : ∀ b, b ∈ L'.flatMap vblk → b ∈ fp' := fun b hb => by rw [HO'.out.fe]; exact List.mem_append_right _ hb
        have hsz := HB'.out.size
        have happ := HO1.out.app (yss := setsOf r) (M := L') HL'.out HO'.out.hr (by have := HO'.out.nd; rw [HO'.out.fe] at this; exact (List.nodup_append.1 this).2.1) (fun b hb hf => by have h1 := HF'.out b (hvf' b hb); have h2 := HFL.out b hf; omega) (by rw [← HN.out]; exact HE.out) HG.out HAT.out (by rw [← HN.out]; unfold maxN; omega)
        rw [List.append_assoc, ← setsOfL_take HX.out] at happ
        have HAP := Lib.hid happ
        have HN' : Hid (n2 + (setsOf r).length = (yss ++ setsOfL (ks.take (j + 1))).length) := by have := HN.out; rw [List.length_append] at this; rw [setsOfL_take HX.out, List.length_append, List.length_append]; show _ = _; omega
        have HFN : Hid (∀ b, b ∈ vblk (Value.slice A5 (n2 + (setsOf r).length) c5) ++ (L ++ L').flatMap vblk → w.heap.size + 1 ≤ b) := fun b hb => by
          rw [List.flatMap_append] at hb
          have h0 := HLT.out
          rcases List.mem_append.1 hb with hb | hb
          · rcases HAT.out b hb with hb | hb
            · exact HF.out b (hvf b hb)
            · omega
          · rcases List.mem_append.1 hb with hb | hb
            · exact HF.out b (by rw [HO1.out.fe]; exact List.mem_append_right _ hb)
            · have := HF'.out b (hvf' b hb); omega
        have HBN : Hid (Below w.heap.size w wE) := (below_then HB0.out HB'.out).grown HG.out (by have := HB0.out.size; omega) (fun q hq => by have := HF.out q (hvf q (mem_vblk.2 hq)); omega)
        have HMN : Hid (Blk wE w.heap.size #[.int .i64 k1, .slice A s.length c, .slice (some a) ks.length ck] TRx) := M1.out.grown HG.out (fun q hq e => by have := HF.out q (hvf q (mem_vblk.2 hq)); omega)
        have HLN : Hid (w.heap.size < wE.heap.size) := Nat.lt_of_lt_of_le HLT.out (Nat.le_trans hsz HG.out.size)
        clear happ hvf hvf' hsz
        go_wp2
        go_roundg (gk - 1)
        case measure => omega
        case rel => exact ⟨j + 1, by omega, by go_num, A5, _, c5, _, _, rfl, HN', HAP, HFN, HBN, HMN, HLN⟩
      · have hj' : j = ks.length := by omega
        subst hj'
        rw [List.take_length] at HO HN
        go_wp2
        go_ret
        exact ⟨_, fp, L, rfl, HO.out, fun b hb => by have := HF.out b hb; omega, HB0.out⟩
  · have d0 : setsOf (.mk k s ks) = setsOfL ks := by rw [setsOf, if_neg h1]; rfl
    have hkk : (k == 1) = false := by simp [h1]
    rw [d0, ← List.nil_append (setsOfL ks)]
    clear h1 d0
    obtain ⟨yss, hys⟩ : ∃ y : List (List Sp), y = [] := ⟨_, rfl⟩
    have hy : yss.length ≤ 1 := by rw [hys]; simp
    have HN : Hid (0 = (yss ++ setsOfL (ks.take 0)).length) := by rw [hys]; exact rfl
    replace HO : OwnSS wa [w.heap.size + 1] (.slice (some ⟨w.heap.size + 1, 0, none⟩) 0 0) yss [] := by rw [hys]; exact HO.out
    replace HO := Lib.hid HO
    rw [← hys]
    replace hys := Lib.hid hys
    rw [← hk1'] at M0
    replace hk1' := Lib.hid hk1'
    go_enter Try.func60, Try.ntmps60
    go_wp2_with fail
    clear hwa n0 n1 n2
    go_loopg [3, 4] (ks.length) (fun n v i wr => ∃ j : Nat, j + n = ks.length ∧ i = .int .i64 j ∧ ∃ (A2 : Option Addr) (n2 c2 : Nat) (fp : List Nat) (L : List Value), v = .slice A2 n2 c2 ∧ Hid (n2 = (yss ++ setsOfL (ks.take j)).length) ∧ Hid (OwnSS wr fp (.slice A2 n2 c2) (yss ++ setsOfL (ks.take j)) L) ∧ Hid (∀ b, b ∈ fp → w.heap.size + 1 ≤ b) ∧ Hid (Below w.heap.size w wr) ∧ Hid (Blk wr w.heap.size #[.int .i64 k1, .slice A s.length c, .slice K ks.length ck] TRx) ∧ Hid (w.heap.size < wr.heap.size))
    case atStart => exact ⟨0, by omega, rfl, _, _, _, _, _, rfl, HN, by simpa [setsOfL, Hid] using HO, HF, HB0, M0, HLT⟩
    case round =>
      clear HO HF HB0 M0 HN HLT
      obtain ⟨j, hj, rfl, A2, n2, c2, fp, L, rfl, HN, HO, HF, HB0, M0, HLT⟩ := hrel
      have m2 : wr.cell? ⟨w.heap.size, 2, none⟩ = some (.slice K ks.length ck) := by rw [M0.out.cell]; rfl
      by_cases hlt : j < ks.length
      · obtain ⟨a, r, x1, x2, rfl, HX, HD, HV, c0, c1, c2'⟩ := (HK.out.below HB0.out).at_ j hlt
        obtain ⟨A3, q3, K3, d3, _, rfl, rfl, _⟩ := HV.out.parts
        have hmem := List.mem_of_getElem? HX.out
        have hks := size_kid hmem
        have hmt := manyL_take ks j HX.out
        have hst := setsL_many (ks.take j)
        have hsm := sets_many r
        have i0 : (0 : Int) ≤ (j : Int) := by omega
        have i1 : (j : Int) < (ks.length : Int) := by omega
        clear hlt
        go_wp2_with fail
        refine (ih r hmem _ _ wr lo HV.out (by omega) (by omega)).mono ?_
        rintro e w1 ⟨v', fp', L', rfl, o', f', b'⟩
        obtain ⟨K4, d4, rfl, _, hrow4⟩ := own_row o'.hk
        have hn4 : n2 + (setsOf r).length ≤ 1000001 := by have := HN.out; rw [List.length_append] at this; omega
        have HR4 := Lib.hid hrow4
        have HO' := Lib.hid o'
        have HL' := Lib.hid o'.hL
        have HB' := Lib.hid b'
        have HF' : Hid (∀ b, b ∈ fp' → wr.heap.size ≤ b) := f'
        have HO1 := Lib.hid (HO.out.under b')
        have H1 : Hid (w1.ownsRow 0 TSS 1 (.slice A2 n2 c2) n2 L) := by have := HO1.out.hk; rw [← HN.out] at this; exact this
        have HFL : Hid (∀ b, b ∈ fp → b < wr.heap.size) := HO.out.lt
        have M1 := Lib.hid (M0.out.below b')
        clear c0 c1 c2' o' f' b' m2 hrow4 M0
        go_wp2_with (first
          | (refine wpList_append_row (by rfl) (.tmp 23) (.tmp 29) 37 (by rfl) 0 TSS i1' nilS 1 24 Try.underlying37 hi hz0 hza hz2 rfl (by decide) (.slice A2 n2 c2) n2 L (by rfl) H1.out K4 (setsOf r).length d4 L' (by rfl) HR4.out (by rw [← HL'.out]; omega) HO'.out.ones (by unfold maxLen; omega) (by omega) (Nat.zero_le _) _ rfl (n2 + (setsOf r).length) rfl ?_; intro A5 c5 wE hown hgrow hat; have HE := Lib.hid hown; have HG := Lib.hid hgrow; have HAT := Lib.hid hat; clear hown hgrow hat))
        have hvf : ∀ b, b ∈ vblk (Value.slice A2 n2 c2) → b ∈ fp := fun b hb => by rw [HO1.out.fe]; exact List.mem_append_left _ hb
        have hvf' : ∀ b, b ∈ L'.flatMap vblk → b ∈ fp' := fun b hb => by rw [HO'.out.fe]; exact List.mem_append_right _ hb
        have hsz := HB'.out.size
        have happ := HO1.out.app (yss := setsOf r) (M := L') HL'.out HO'.out.hr (by have := HO'.out.nd; rw [HO'.out.fe] at this; exact (List.nodup_append.1 this).2.1) (fun b hb hf => by have h1 := HF'.out b (hvf' b hb); have h2 := HFL.out b hf; omega) (by rw [← HN.out]; exact HE.out) HG.out HAT.out (by rw [← HN.out]; unfold maxN; omega)
        rw [List.append_assoc, ← setsOfL_take HX.out] at happ
        have HAP := Lib.hid happ
        have HN' : Hid (n2 + (setsOf r).length = (yss ++ setsOfL (ks.take (j + 1))).length) := by have := HN.out; rw [List.length_append] at this; rw [setsOfL_take HX.out, List.length_append, List.length_append]; show _ = _; omega
        have HFN : Hid (∀ b, b ∈ vblk (Value.slice A5 (n2 + (setsOf r).length) c5) ++ (L ++ L').flatMap vblk → w.heap.size + 1 ≤ b) := fun b hb => by
          rw [List.flatMap_append] at hb
          have h0 := HLT.out
          rcases List.mem_append.1 hb with hb | hb
          · rcases HAT.out b hb with hb | hb
            · exact HF.out b (hvf b hb)
            · omega
          · rcases List.mem_append.1 hb with hb | hb
            · exact HF.out b (by rw [HO1.out.fe]; exact List.mem_append_right _ hb)
            · have := HF'.out b (hvf' b hb); omega
        have HBN : Hid (Below w.heap.size w wE) := (below_then HB0.out HB'.out).grown HG.out (by have := HB0.out.size; omega) (fun q hq => by have := HF.out q (hvf q (mem_vblk.2 hq)); omega)
        have HMN : Hid (Blk wE w.heap.size #[.int .i64 k1, .slice A s.length c, .slice (some a) ks.length ck] TRx) := M1.out.grown HG.out (fun q hq e => by have := HF.out q (hvf q (mem_vblk.2 hq)); omega)
        have HLN : Hid (w.heap.size < wE.heap.size) := Nat.lt_of_lt_of_le HLT.out (Nat.le_trans hsz HG.out.size)
        clear happ hvf hvf' hsz
        go_wp2
        go_roundg (gk - 1)
        case measure => omega
        case rel => exact ⟨j + 1, by omega, by go_num, A5, _, c5, _, _, rfl, HN', HAP, HFN, HBN, HMN, HLN⟩
      · have hj' : j = ks.length := by omega
        subst hj'
        rw [List.take_length] at HO HN
        go_wp2
        go_ret
        exact ⟨_, fp, L, rfl, HO.out, fun b hb => by have := HF.out b hb; omega, HB0.out⟩

set_option maxHeartbeats 1000000 in
theorem sRexSets_c (r : Rex) (v1 v2 : Value) (w : World) (lo : Nat) (h : RexV w lo r (.int .i64 r.kind) v1 v2) (hsz : r.size ≤ 1048576) :
    Calls Try.prog 25 #[.agg #[.int .i64 r.kind, v1, v2]] w fun e w' => ∃ v fp L, e = .returned v ∧ OwnSS w' fp v (rexSets r) L ∧ (∀ b, b ∈ fp → w.heap.size ≤ b) ∧ Below w.heap.size w w' := by
  obtain ⟨A, c, K, ck, _, rfl, rfl, _, _⟩ := h.parts
  obtain ⟨wa, hwa⟩ : ∃ x, x = w.alloc (.cells #[.int .i64 r.kind, .slice A r.set.length c, .slice K r.kids.length ck] TRx) := ⟨_, rfl⟩
  have hb : Below w.heap.size w wa := by rw [hwa]; exact below_alloc (Below.refl _ _) _
  have m0 : Blk wa w.heap.size #[.int .i64 r.kind, .slice A r.set.length c, .slice K r.kids.length ck] TRx := by rw [hwa]; exact blk_new w _ _
  have HV := Lib.hid (h.under hb)
  have HB := Lib.hid hb
  have M0 := Lib.hid m0
  clear hb m0 h
  replace hwa := hwa.symm
  have n0 : wa.cell? ⟨w.heap.size, 0, none⟩ = some (.int .i64 r.kind) := by rw [M0.out.cell]; rfl
  have n0' : wa.cell? ⟨w.heap.size, 1, none⟩ = some (.slice A r.set.length c) := by rw [M0.out.cell]; rfl
  have n0'' : wa.cell? ⟨w.heap.size, 2, none⟩ = some (.slice K r.kids.length ck) := by rw [M0.out.cell]; rfl
  go_enter Try.func25, Try.ntmps25
  go_wp2_with fail
  clear hwa
  refine (sRexOk_c _ _ _ _ _ HV.out hsz).mono ?_
  rintro e w1 ⟨rfl, b1⟩
  replace M0 := Lib.hid (M0.out.below b1)
  have H1 := Lib.hid b1
  clear n0 n0' n0'' b1
  have n0 : w1.cell? ⟨w.heap.size, 0, none⟩ = some (.int .i64 r.kind) := by rw [M0.out.cell]; rfl
  have n0' : w1.cell? ⟨w.heap.size, 1, none⟩ = some (.slice A r.set.length c) := by rw [M0.out.cell]; rfl
  have n0'' : w1.cell? ⟨w.heap.size, 2, none⟩ = some (.slice K r.kids.length ck) := by rw [M0.out.cell]; rfl
  by_cases hf : rexOk r = true
  · have HF := Lib.hid hf
    have hm := ok_many hf
    rw [hf]
    clear hf
    go_wp2_with fail
    refine (sL2Sets_c r _ _ w1 lo (HV.out.under H1.out) hsz (by omega)).mono ?_
    rintro e w2 ⟨v2, fp2, L2, rfl, o2, f2, b2⟩
    have HO2 := Lib.hid o2
    have HB2 := Lib.hid b2
    have HF2 : Hid (∀ b, b ∈ fp2 → w1.heap.size ≤ b) := f2
    clear o2 b2 f2 n0 n0' n0''
    go_wp2
    go_ret
    refine ⟨v2, fp2, L2, rfl, by rw [rexSets, if_pos HF.out]; exact HO2.out, fun b hb => ?_, below_then HB.out (below_then H1.out HB2.out)⟩
    have h1 := HB.out.size
    have h2 := H1.out.size
    have := HF2.out b hb
    omega
  · have HF := Lib.hid hf
    rw [show rexOk r = false by simpa using hf]
    clear hf
    go_wp2
    go_ret
    exact ⟨_, [w1.heap.size], [], rfl, by rw [rexSets, if_neg HF.out]; exact own_ee w1, fun b hb => by have h1 := HB.out.size; have h2 := H1.out.size; simp at hb; omega, below_then HB.out (below_alloc' H1.out _)⟩

end Go.Proofs.Ytiaccimbkghofaa
