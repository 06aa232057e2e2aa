/- Texts joined for the claims: SS7 LawRexSets W4 Bits W1h W5 W6. -/
import Derived.Test.YtiaccimbkghofaaG6
import Derived.Test.YtiaccimbkghofaaG4
import Derived.Test.YtiaccimbkghofaaG1
import Derived.Test.YtiaccimbkghofaaG2
import Derived.Laws.StructEq
/- l2Sets, RexSets of the reference. -/
namespace Go.Proofs.Ytiaccimbkghofaa
set_option linter.unusedSimpArgs false
set_option linter.unusedVariables false
open Go.RowKit

def L2Ok (r : Rex) : Prop := ∀ (v1 v2 : Value) (w : World) (lo : Nat), RexV w lo r (.int .i64 r.kind) v1 v2 → r.size ≤ 1048576 → r.many ≤ 1000000 →
  Calls Try.prog 60 #[.agg #[.int .i64 r.kind, v1, v2]] w fun e w' => ∃ v fp L, e = .returned v ∧ OwnSS w' fp v (setsOf r) L ∧ (∀ b, b ∈ fp → w.heap.size ≤ b) ∧ Below w.heap.size w w'
theorem own_ee (w : World) : OwnSS (w.alloc (.cells #[] TSS)) [w.heap.size] (.slice (some ⟨w.heap.size, 0, none⟩) 0 0) [] [] :=
  ⟨rfl, ⟨rfl, .inr ⟨w.heap.size, 0, #[], rfl, Nat.zero_le _, heap_alloc_new w _, Nat.le_refl _, by unfold maxLen; omega, rfl, rfl⟩⟩, by simp, fun i xs x h => by simp at h, rfl, by simp⟩

theorem OwnSS.touch {w w' : World} {fp f : List Nat} {v : Value} {xss : List (List Sp)} {L : List Value} (h : OwnSS w fp v xss L) (ht : Touch f w w') (hd : ∀ b, b ∈ fp → b ∉ f) : OwnSS w' fp v xss L := h.stay fun b hb => ht.block b (h.lt b hb) (hd b hb)
set_option maxHeartbeats 1000000 in
theorem sL2Sets_c (r : Rex) : L2Ok r := by
  refine Rex.ind (p := L2Ok) (fun k s ks ih => ?_) r
  intro v1 v2 w lo h hsz hmn
  obtain ⟨A, c, K, ck, _, rfl, rfl, hs, hk⟩ := h.parts
  dsimp only [Rex.kind, Rex.set, Rex.kids] at hs hk ⊢
  rw [Rex.size] at hsz
  rw [Rex.many] at hmn
  clear h
  obtain ⟨wa, hwa⟩ : ∃ x, x = (w.alloc (.cells #[.int .i64 k, .slice A s.length c, .slice K ks.length ck] TRx)).alloc (.cells #[] TSS) := ⟨_, rfl⟩
  have hb : Below w.heap.size w wa := by rw [hwa]; exact below_alloc (below_alloc (Below.refl _ _) _) _
  have m0 : Blk wa w.heap.size #[.int .i64 k, .slice A s.length c, .slice K ks.length ck] TRx := by rw [hwa]; exact (blk_new w _ _).alloc _
  have ho : OwnSS wa [w.heap.size + 1] (.slice (some ⟨w.heap.size + 1, 0, none⟩) 0 0) [] [] := by
    rw [hwa]
    have := own_ee (w.alloc (.cells #[.int .i64 k, .slice A s.length c, .slice K ks.length ck] TRx))
    simpa using this
  have hza0 : wa.heap.size = w.heap.size + 2 := by rw [hwa]; simp
  replace hwa := hwa.symm
  have HK := Lib.hid hk
  have HS := Lib.hid hs
  have HB0 := Lib.hid hb
  have HO := Lib.hid ho
  have M0 := Lib.hid m0
  have HZA := Lib.hid hza0
  have HF : Hid (∀ b, b ∈ [w.heap.size + 1] → w.heap.size + 1 ≤ b) := fun b hb => by simp at hb; omega
  have HLT : Hid (w.heap.size < wa.heap.size) := by show _ < _; omega
  have n0 : wa.cell? ⟨w.heap.size, 0, none⟩ = some (.int .i64 k) := by rw [m0.cell]; rfl
  have n1 : wa.cell? ⟨w.heap.size, 1, none⟩ = some (.slice A s.length c) := by rw [m0.cell]; rfl
  have n2 : wa.cell? ⟨w.heap.size, 2, none⟩ = some (.slice K ks.length ck) := by rw [m0.cell]; rfl
  obtain ⟨k1, hk1'⟩ : ∃ x, x = k := ⟨_, rfl⟩
  obtain ⟨i1', hi, hz0, hza, hz2⟩ := info_parts infoSS
  clear hb m0 hs hk ho hza0
  by_cases h1 : k = 1
  · subst h1
    have d0 : setsOf (.mk 1 s ks) = [s] ++ setsOfL ks := by rw [setsOf, if_pos rfl]
    rw [d0]
    clear d0
    obtain ⟨yss, hys⟩ : ∃ y : List (List Sp), y = [s] := ⟨_, rfl⟩
    have hy : yss.length ≤ 1 := by rw [hys]; simp
    rw [← hys]
    replace hys := Lib.hid hys
    rw [← hk1'] at M0
    replace hk1' := Lib.hid hk1'
    obtain ⟨i0', gi, gz0, gza, gz2⟩ := info_parts infoSp
    have na := fun o => cell_alloc n1 o
    have hsl : s.length ≤ 1048576 := by omega
    go_enter Try.func60, Try.ntmps60
    go_wp2_with (first
      | (refine wpList_append_row (by rfl) (.tmp 10) (.tmp 12) 28 (by rfl) 0 TSp i0' (.agg #[.int .i64 0, .int .i64 0]) 2 16 Try.underlying28 gi gz0 gza gz2 rfl (by decide) (.slice (some ⟨wa.heap.size, 0, none⟩) 0 0) 0 [] (by rfl) (own_e wa (Nat.zero_le _)) A s.length c (spcs s) (by rfl) ((HS.out.below HB0.out).below (below_alloc (Below.refl _ _) _)).row (spcs_length _) (spcs_one _) (by unfold maxLen; omega) (by omega) (Nat.zero_le _) _ rfl s.length (by omega) ?_; intro AS cS w2 hownS hgrowS hatS; have T2 := Touch.of_grown hgrowS; have O2 := Lib.hid ((HO.out.under (below_alloc (Below.refl _ _) E0)).touch T2 (fun b hb => by have := HZA.out; rw [vblk_some]; simp at hb ⊢; omega)); have M2 := Lib.hid ((M0.out.alloc E0).touch T2 (by have := HZA.out; rw [vblk_some]; simp; omega)); have HES := Lib.hid hownS; have HGS := Lib.hid hgrowS; have HATS := Lib.hid hatS; have H2 := Lib.hid (own_below O2.out.hk (below_alloc (Below.refl _ _) (.cells #[.slice AS s.length cS] TSS))); clear T2 hownS hgrowS hatS)
      | (refine wpList_append_row (by rfl) (.tmp 9) (.tmp 14) 37 (by rfl) 0 TSS i1' nilS 1 24 Try.underlying37 hi hz0 hza hz2 rfl (by decide) (.slice (some ⟨w.heap.size + 1, 0, none⟩) 0 0) 0 [] (by rfl) H2.out (some ⟨w2.heap.size, 0, none⟩) 1 1 [.slice AS s.length cS] (by rfl) (.inr ⟨⟨w2.heap.size, 0, none⟩, rfl, Nat.zero_le _, new_cells w2 [.slice AS s.length cS] TSS⟩) rfl (slice_one _ _ _) (by unfold maxLen; omega) (by omega) (Nat.zero_le _) _ rfl 1 rfl ?_; intro A5 c5 wE hown hgrow hat; have ZB := (M2.out.alloc (.cells #[.slice AS s.length cS] TSS)).grown hgrow (fun q hq e => by rw [← mem_vblk, vblk_some] at hq; simp at hq; omega); have ne := (ZB.cell 2).trans rfl; have ME := Lib.hid ZB; have HE := Lib.hid hown; have HG := Lib.hid hgrow; have HAT := Lib.hid hat; clear hown hgrow hat ZB))
    clear n0 n1 n2 na ne
    have hzw := HZA.out
    have hvs : ∀ b, b ∈ vblk (Value.slice AS s.length cS) → wa.heap.size ≤ b := fun b hb => by
      rcases HATS.out b hb with h | h
      · rw [vblk_some] at h; simp at h; omega
      · simp at h; omega
    have hos : OwnSp w2 0 (Value.slice AS s.length cS) s := ⟨by simpa using HES.out, (HS.out).len⟩
    have hfl : ∀ b, b ∈ [Value.slice AS s.length cS].flatMap vblk → b ∈ vblk (Value.slice AS s.length cS) := fun b hb => by simpa using hb
    have happ := (O2.out.under (below_alloc (Below.refl _ _) (.cells #[.slice AS s.length cS] TSS))).app (yss := [s]) (M := [Value.slice AS s.length cS]) rfl (fun i ys y hi hy => by
      match i with
      | 0 => simp at hi hy; subst hi hy; exact hos.below (below_alloc (Below.refl _ _) _)
      | i + 1 => simp at hi) (by simpa using vblk_nodup _) (fun b hb hf => by have h1 := hvs b (hfl b hb); simp at hf; omega) (by simpa using HE.out) HG.out HAT.out (by unfold maxN; simp)
    have HB1 : Hid (Below w.heap.size w w2) := (below_alloc' HB0.out E0).grown HGS.out (by simp; omega) (fun q hq => by rw [← mem_vblk, vblk_some] at hq; simp at hq; omega)
    have HB' : Hid (Below w.heap.size w wE) := (below_alloc' HB1.out _).grown HG.out (by simp; have := HB1.out.size; omega) (fun q hq => by rw [← mem_vblk, vblk_some] at hq; simp at hq; omega)
    have HF' : Hid (∀ b, b ∈ vblk (Value.slice A5 1 c5) ++ [Value.slice AS s.length cS].flatMap vblk → w.heap.size + 1 ≤ b) := fun b hb => by
      have h1 := HB1.out.size
      have h2 := HGS.out.size
      simp only [World.size_alloc] at h2
      rcases List.mem_append.1 hb with hb | hb
      · rcases HAT.out b hb with hb | hb
        · rw [vblk_some] at hb; simp at hb; omega
        · simp at hb; omega
      · have := hvs b (hfl b hb); omega
    have HLT' : Hid (w.heap.size < wE.heap.size) := ME.out.lt
    have HN : Hid (1 = (yss ++ setsOfL (ks.take 0)).length) := by rw [hys.out]; exact rfl
    have HO' : OwnSS wE (vblk (Value.slice A5 1 c5) ++ [Value.slice AS s.length cS].flatMap vblk) (Value.slice A5 1 c5) yss [Value.slice AS s.length cS] := by rw [hys.out]; exact happ
    clear happ hos hvs hfl HB1 HB0 HF HO HLT M0 hzw O2 M2 HES HGS HATS H2 HE HG HAT gi gz0 gza gz2
    have HO := Lib.hid HO'
    have HB0 := HB'
    have HF := HF'
    have HLT := HLT'
    have M0 := ME
    clear HO' HB' HF' HLT' ME
    go_loopg [3, 4] (ks.length) (fun n v i wr => ∃ j : Nat, j + n = ks.length ∧ i = .int .i64 j ∧ ∃ (A2 : Option Addr) (n2 c2 : Nat) (fp : List Nat) (L : List Value), v = .slice A2 n2 c2 ∧ Hid (n2 = (yss ++ setsOfL (ks.take j)).length) ∧ Hid (OwnSS wr fp (.slice A2 n2 c2) (yss ++ setsOfL (ks.take j)) L) ∧ Hid (∀ b, b ∈ fp → w.heap.size + 1 ≤ b) ∧ Hid (Below w.heap.size w wr) ∧ Hid (Blk wr w.heap.size #[.int .i64 k1, .slice A s.length c, .slice K ks.length ck] TRx) ∧ Hid (w.heap.size < wr.heap.size))
    case atStart => exact ⟨0, by omega, rfl, _, _, _, _, _, rfl, HN, by simpa [setsOfL, Hid] using HO, HF, HB0, M0, HLT⟩
    case round =>
      clear HO HF HB0 M0 HN HLT
      obtain ⟨j, hj, rfl, A2, n2, c2, fp, L, rfl, HN, HO, HF, HB0, M0, HLT⟩ := hrel
      have m2 : wr.cell? ⟨w.heap.size, 2, none⟩ = some (.slice K ks.length ck) := by rw [M0.out.cell]; rfl
      by_cases hlt : j < ks.length
      · obtain ⟨a, r, x1, x2, rfl, HX, HD, HV, c0, c1, c2'⟩ := (HK.out.below HB0.out).at_ j hlt
        obtain ⟨A3, q3, K3, d3, _, rfl, rfl, _⟩ := HV.out.parts
        have hmem := List.mem_of_getElem? HX.out
        have hks := size_kid hmem
        have hmt := manyL_take ks j HX.out
        have hst := setsL_many (ks.take j)
        have hsm := sets_many r
        have i0 : (0 : Int) ≤ (j : Int) := by omega
        have i1 : (j : Int) < (ks.length : Int) := by omega
        clear hlt
        go_wp2_with fail
        refine (ih r hmem _ _ wr lo HV.out (by omega) (by omega)).mono ?_
        rintro e w1 ⟨v', fp', L', rfl, o', f', b'⟩
        obtain ⟨K4, d4, rfl, _, hrow4⟩ := own_row o'.hk
        have hn4 : n2 + (setsOf r).length ≤ 1000001 := by have := HN.out; rw [List.length_append] at this; omega
        have HR4 := Lib.hid hrow4
        have HO' := Lib.hid o'
        have HL' := Lib.hid o'.hL
        have HB' := Lib.hid b'
        have HF' : Hid (∀ b, b ∈ fp' → wr.heap.size ≤ b) := f'
        have HO1 := Lib.hid (HO.out.under b')
        have H1 : Hid (w1.ownsRow 0 TSS 1 (.slice A2 n2 c2) n2 L) := by have := HO1.out.hk; rw [← HN.out] at this; exact this
        have HFL : Hid (∀ b, b ∈ fp → b < wr.heap.size) := HO.out.lt
        have M1 := Lib.hid (M0.out.below b')
        clear c0 c1 c2' o' f' b' m2 hrow4 M0
        go_wp2_with (first
          | (refine wpList_append_row (by rfl) (.tmp 23) (.tmp 29) 37 (by rfl) 0 TSS i1' nilS 1 24 Try.underlying37 hi hz0 hza hz2 rfl (by decide) (.slice A2 n2 c2) n2 L (by rfl) H1.out K4 (setsOf r).length d4 L' (by rfl) HR4.out (by rw [← HL'.out]; omega) HO'.out.ones (by unfold maxLen; omega) (by omega) (Nat.zero_le _) _ rfl (n2 + (setsOf r).length) rfl ?_; intro A5 c5 wE hown hgrow hat; have HE := Lib.hid hown; have HG := Lib.hid hgrow; have HAT := Lib.hid hat; clear hown hgrow hat))
        have hvf : ∀ b, b ∈ vblk (Value.slice A2 n2 c2) → b ∈ fp := fun b hb => by rw [HO1.out.fe]; exact List.mem_append_left _ hb
        have hvf' : ∀ b, b ∈ L'.flatMap vblk → b ∈ fp' := fun b hb => by rw [HO'.out.fe]; exact List.mem_append_right _ hb
        have hsz := HB'.out.size
        have happ := HO1.out.app (yss := setsOf r) (M := L') HL'.out HO'.out.hr (by have := HO'.out.nd; rw [HO'.out.fe] at this; exact (List.nodup_append.1 this).2.1) (fun b hb hf => by have h1 := HF'.out b (hvf' b hb); have h2 := HFL.out b hf; omega) (by rw [← HN.out]; exact HE.out) HG.out HAT.out (by rw [← HN.out]; unfold maxN; omega)
        rw [List.append_assoc, ← setsOfL_take HX.out] at happ
        have HAP := Lib.hid happ
        have HN' : Hid (n2 + (setsOf r).length = (yss ++ setsOfL (ks.take (j + 1))).length) := by have := HN.out; rw [List.length_append] at this; rw [setsOfL_take HX.out, List.length_append, List.length_append]; show _ = _; omega
        have HFN : Hid (∀ b, b ∈ vblk (Value.slice A5 (n2 + (setsOf r).length) c5) ++ (L ++ L').flatMap vblk → w.heap.size + 1 ≤ b) := fun b hb => by
          rw [List.flatMap_append] at hb
          have h0 := HLT.out
          rcases List.mem_append.1 hb with hb | hb
          · rcases HAT.out b hb with hb | hb
            · exact HF.out b (hvf b hb)
            · omega
          · rcases List.mem_append.1 hb with hb | hb
            · exact HF.out b (by rw [HO1.out.fe]; exact List.mem_append_right _ hb)
            · have := HF'.out b (hvf' b hb); omega
        have HBN : Hid (Below w.heap.size w wE) := (below_then HB0.out HB'.out).grown HG.out (by have := HB0.out.size; omega) (fun q hq => by have := HF.out q (hvf q (mem_vblk.2 hq)); omega)
        have HMN : Hid (Blk wE w.heap.size #[.int .i64 k1, .slice A s.length c, .slice (some a) ks.length ck] TRx) := M1.out.grown HG.out (fun q hq e => by have := HF.out q (hvf q (mem_vblk.2 hq)); omega)
        have HLN : Hid (w.heap.size < wE.heap.size) := Nat.lt_of_lt_of_le HLT.out (Nat.le_trans hsz HG.out.size)
        clear happ hvf hvf' hsz
        go_wp2
        go_roundg (gk - 1)
        case measure => omega
        case rel => exact ⟨j + 1, by omega, by go_num, A5, _, c5, _, _, rfl, HN', HAP, HFN, HBN, HMN, HLN⟩
      · have hj' : j = ks.length := by omega
        subst hj'
        rw [List.take_length] at HO HN
        go_wp2
        go_ret
        exact ⟨_, fp, L, rfl, HO.out, fun b hb => by have := HF.out b hb; omega, HB0.out⟩
  · have d0 : setsOf (.mk k s ks) = setsOfL ks := by rw [setsOf, if_neg h1]; rfl
    have hkk : (k == 1) = false := by simp [h1]
    rw [d0, ← List.nil_append (setsOfL ks)]
    clear h1 d0
    obtain ⟨yss, hys⟩ : ∃ y : List (List Sp), y = [] := ⟨_, rfl⟩
    have hy : yss.length ≤ 1 := by rw [hys]; simp
    have HN : Hid (0 = (yss ++ setsOfL (ks.take 0)).length) := by rw [hys]; exact rfl
    replace HO : OwnSS wa [w.heap.size + 1] (.slice (some ⟨w.heap.size + 1, 0, none⟩) 0 0) yss [] := by rw [hys]; exact HO.out
    replace HO := Lib.hid HO
    rw [← hys]
    replace hys := Lib.hid hys
    rw [← hk1'] at M0
    replace hk1' := Lib.hid hk1'
    go_enter Try.func60, Try.ntmps60
    go_wp2_with fail
    clear hwa n0 n1 n2
    go_loopg [3, 4] (ks.length) (fun n v i wr => ∃ j : Nat, j + n = ks.length ∧ i = .int .i64 j ∧ ∃ (A2 : Option Addr) (n2 c2 : Nat) (fp : List Nat) (L : List Value), v = .slice A2 n2 c2 ∧ Hid (n2 = (yss ++ setsOfL (ks.take j)).length) ∧ Hid (OwnSS wr fp (.slice A2 n2 c2) (yss ++ setsOfL (ks.take j)) L) ∧ Hid (∀ b, b ∈ fp → w.heap.size + 1 ≤ b) ∧ Hid (Below w.heap.size w wr) ∧ Hid (Blk wr w.heap.size #[.int .i64 k1, .slice A s.length c, .slice K ks.length ck] TRx) ∧ Hid (w.heap.size < wr.heap.size))
    case atStart => exact ⟨0, by omega, rfl, _, _, _, _, _, rfl, HN, by simpa [setsOfL, Hid] using HO, HF, HB0, M0, HLT⟩
    case round =>
      clear HO HF HB0 M0 HN HLT
      obtain ⟨j, hj, rfl, A2, n2, c2, fp, L, rfl, HN, HO, HF, HB0, M0, HLT⟩ := hrel
      have m2 : wr.cell? ⟨w.heap.size, 2, none⟩ = some (.slice K ks.length ck) := by rw [M0.out.cell]; rfl
      by_cases hlt : j < ks.length
      · obtain ⟨a, r, x1, x2, rfl, HX, HD, HV, c0, c1, c2'⟩ := (HK.out.below HB0.out).at_ j hlt
        obtain ⟨A3, q3, K3, d3, _, rfl, rfl, _⟩ := HV.out.parts
        have hmem := List.mem_of_getElem? HX.out
        have hks := size_kid hmem
        have hmt := manyL_take ks j HX.out
        have hst := setsL_many (ks.take j)
        have hsm := sets_many r
        have i0 : (0 : Int) ≤ (j : Int) := by omega
        have i1 : (j : Int) < (ks.length : Int) := by omega
        clear hlt
        go_wp2_with fail
        refine (ih r hmem _ _ wr lo HV.out (by omega) (by omega)).mono ?_
        rintro e w1 ⟨v', fp', L', rfl, o', f', b'⟩
        obtain ⟨K4, d4, rfl, _, hrow4⟩ := own_row o'.hk
        have hn4 : n2 + (setsOf r).length ≤ 1000001 := by have := HN.out; rw [List.length_append] at this; omega
        have HR4 := Lib.hid hrow4
        have HO' := Lib.hid o'
        have HL' := Lib.hid o'.hL
        have HB' := Lib.hid b'
        have HF' : Hid (∀ b, b ∈ fp' → wr.heap.size ≤ b) := f'
        have HO1 := Lib.hid (HO.out.under b')
        have H1 : Hid (w1.ownsRow 0 TSS 1 (.slice A2 n2 c2) n2 L) := by have := HO1.out.hk; rw [← HN.out] at this; exact this
        have HFL : Hid (∀ b, b ∈ fp → b < wr.heap.size) := HO.out.lt
        have M1 := Lib.hid (M0.out.below b')
        clear c0 c1 c2' o' f' b' m2 hrow4 M0
        go_wp2_with (first
          | (refine wpList_append_row (by rfl) (.tmp 23) (.tmp 29) 37 (by rfl) 0 TSS i1' nilS 1 24 Try.underlying37 hi hz0 hza hz2 rfl (by decide) (.slice A2 n2 c2) n2 L (by rfl) H1.out K4 (setsOf r).length d4 L' (by rfl) HR4.out (by rw [← HL'.out]; omega) HO'.out.ones (by unfold maxLen; omega) (by omega) (Nat.zero_le _) _ rfl (n2 + (setsOf r).length) rfl ?_; intro A5 c5 wE hown hgrow hat; have HE := Lib.hid hown; have HG := Lib.hid hgrow; have HAT := Lib.hid hat; clear hown hgrow hat))
        have hvf : ∀ b, b ∈ vblk (Value.slice A2 n2 c2) → b ∈ fp := fun b hb => by rw [HO1.out.fe]; exact List.mem_append_left _ hb
        have hvf' : ∀ b, b ∈ L'.flatMap vblk → b ∈ fp' := fun b hb => by rw [HO'.out.fe]; exact List.mem_append_right _ hb
        have hsz := HB'.out.size
        have happ := HO1.out.app (yss := setsOf r) (M := L') HL'.out HO'.out.hr (by have := HO'.out.nd; rw [HO'.out.fe] at this; exact (List.nodup_append.1 this).2.1) (fun b hb hf => by have h1 := HF'.out b (hvf' b hb); have h2 := HFL.out b hf; omega) (by rw [← HN.out]; exact HE.out) HG.out HAT.out (by rw [← HN.out]; unfold maxN; omega)
        rw [List.append_assoc, ← setsOfL_take HX.out] at happ
        have HAP := Lib.hid happ
        have HN' : Hid (n2 + (setsOf r).length = (yss ++ setsOfL (ks.take (j + 1))).length) := by have := HN.out; rw [List.length_append] at this; rw [setsOfL_take HX.out, List.length_append, List.length_append]; show _ = _; omega
        have HFN : Hid (∀ b, b ∈ vblk (Value.slice A5 (n2 + (setsOf r).length) c5) ++ (L ++ L').flatMap vblk → w.heap.size + 1 ≤ b) := fun b hb => by
          rw [List.flatMap_append] at hb
          have h0 := HLT.out
          rcases List.mem_append.1 hb with hb | hb
          · rcases HAT.out b hb with hb | hb
            · exact HF.out b (hvf b hb)
            · omega
          · rcases List.mem_append.1 hb with hb | hb
            · exact HF.out b (by rw [HO1.out.fe]; exact List.mem_append_right _ hb)
            · have := HF'.out b (hvf' b hb); omega
        have HBN : Hid (Below w.heap.size w wE) := (below_then HB0.out HB'.out).grown HG.out (by have := HB0.out.size; omega) (fun q hq => by have := HF.out q (hvf q (mem_vblk.2 hq)); omega)
        have HMN : Hid (Blk wE w.heap.size #[.int .i64 k1, .slice A s.length c, .slice (some a) ks.length ck] TRx) := M1.out.grown HG.out (fun q hq e => by have := HF.out q (hvf q (mem_vblk.2 hq)); omega)
        have HLN : Hid (w.heap.size < wE.heap.size) := Nat.lt_of_lt_of_le HLT.out (Nat.le_trans hsz HG.out.size)
        clear happ hvf hvf' hsz
        go_wp2
        go_roundg (gk - 1)
        case measure => omega
        case rel => exact ⟨j + 1, by omega, by go_num, A5, _, c5, _, _, rfl, HN', HAP, HFN, HBN, HMN, HLN⟩
      · have hj' : j = ks.length := by omega
        subst hj'
        rw [List.take_length] at HO HN
        go_wp2
        go_ret
        exact ⟨_, fp, L, rfl, HO.out, fun b hb => by have := HF.out b hb; omega, HB0.out⟩

set_option maxHeartbeats 1000000 in
theorem sRexSets_c (r : Rex) (v1 v2 : Value) (w : World) (lo : Nat) (h : RexV w lo r (.int .i64 r.kind) v1 v2) (hsz : r.size ≤ 1048576) :
    Calls Try.prog 25 #[.agg #[.int .i64 r.kind, v1, v2]] w fun e w' => ∃ v fp L, e = .returned v ∧ OwnSS w' fp v (rexSets r) L ∧ (∀ b, b ∈ fp → w.heap.size ≤ b) ∧ Below w.heap.size w w' := by
  obtain ⟨A, c, K, ck, _, rfl, rfl, _, _⟩ := h.parts
  obtain ⟨wa, hwa⟩ : ∃ x, x = w.alloc (.cells #[.int .i64 r.kind, .slice A r.set.length c, .slice K r.kids.length ck] TRx) := ⟨_, rfl⟩
  have hb : Below w.heap.size w wa := by rw [hwa]; exact below_alloc (Below.refl _ _) _
  have m0 : Blk wa w.heap.size #[.int .i64 r.kind, .slice A r.set.length c, .slice K r.kids.length ck] TRx := by rw [hwa]; exact blk_new w _ _
  have HV := Lib.hid (h.under hb)
  have HB := Lib.hid hb
  have M0 := Lib.hid m0
  clear hb m0 h
  replace hwa := hwa.symm
  have n0 : wa.cell? ⟨w.heap.size, 0, none⟩ = some (.int .i64 r.kind) := by rw [M0.out.cell]; rfl
  have n0' : wa.cell? ⟨w.heap.size, 1, none⟩ = some (.slice A r.set.length c) := by rw [M0.out.cell]; rfl
  have n0'' : wa.cell? ⟨w.heap.size, 2, none⟩ = some (.slice K r.kids.length ck) := by rw [M0.out.cell]; rfl
  go_enter Try.func25, Try.ntmps25
  go_wp2_with fail
  clear hwa
  refine (sRexOk_c _ _ _ _ _ HV.out hsz).mono ?_
  rintro e w1 ⟨rfl, b1⟩
  replace M0 := Lib.hid (M0.out.below b1)
  have H1 := Lib.hid b1
  clear n0 n0' n0'' b1
  have n0 : w1.cell? ⟨w.heap.size, 0, none⟩ = some (.int .i64 r.kind) := by rw [M0.out.cell]; rfl
  have n0' : w1.cell? ⟨w.heap.size, 1, none⟩ = some (.slice A r.set.length c) := by rw [M0.out.cell]; rfl
  have n0'' : w1.cell? ⟨w.heap.size, 2, none⟩ = some (.slice K r.kids.length ck) := by rw [M0.out.cell]; rfl
  by_cases hf : rexOk r = true
  · have HF := Lib.hid hf
    have hm := ok_many hf
    rw [hf]
    clear hf
    go_wp2_with fail
    refine (sL2Sets_c r _ _ w1 lo (HV.out.under H1.out) hsz (by omega)).mono ?_
    rintro e w2 ⟨v2, fp2, L2, rfl, o2, f2, b2⟩
    have HO2 := Lib.hid o2
    have HB2 := Lib.hid b2
    have HF2 : Hid (∀ b, b ∈ fp2 → w1.heap.size ≤ b) := f2
    clear o2 b2 f2 n0 n0' n0''
    go_wp2
    go_ret
    refine ⟨v2, fp2, L2, rfl, by rw [rexSets, if_pos HF.out]; exact HO2.out, fun b hb => ?_, below_then HB.out (below_then H1.out HB2.out)⟩
    have h1 := HB.out.size
    have h2 := H1.out.size
    have := HF2.out b hb
    omega
  · have HF := Lib.hid hf
    rw [show rexOk r = false by simpa using hf]
    clear hf
    go_wp2
    go_ret
    exact ⟨_, [w1.heap.size], [], rfl, by rw [rexSets, if_neg HF.out]; exact own_ee w1, fun b hb => by have h1 := HB.out.size; have h2 := H1.out.size; simp at hb; omega, below_then HB.out (below_alloc' H1.out _)⟩

end Go.Proofs.Ytiaccimbkghofaa

/- The law FnExactRexSets. -/
namespace Go.Proofs.Ytiaccimbkghofaa
set_option linter.unusedSimpArgs false
set_option linter.unusedVariables false
open Go.RowKit

theorem OwnSS.read {w : World} {fp : List Nat} {K : Option Addr} {ck : Nat} {xss : List (List Sp)} {L : List Value} (h : OwnSS w fp (.slice K xss.length ck) xss L) : SSV w 0 K ck xss := by
  obtain ⟨K', ck', e, s⟩ := h.ssv
  injection e with e1 e2 e3
  subst e1 e3
  exact s
theorem cntSS_append : ∀ (a b : List (List Sp)), cntSS (a ++ b) = cntSS a + cntSS b
  | [], b => by simp [cntSS]
  | x :: a, b => by rw [List.cons_append, cntSS, cntSS, cntSS_append a b]; omega
mutual
theorem cntSS_sets : ∀ r : Rex, cntSS (setsOf r) ≤ 2 * r.size
  | .mk k s ks => by
    have := cntSS_setsL ks
    rw [setsOf, Rex.size, cntSS_append]
    split
    · simp only [cntSS]; omega
    · simp only [cntSS]; omega
theorem cntSS_setsL : ∀ ks : List Rex, cntSS (setsOfL ks) ≤ 2 * sizeL ks
  | [] => by simp [setsOfL, cntSS]
  | r :: ks => by
    have h1 := cntSS_sets r
    have h2 := cntSS_setsL ks
    rw [setsOfL, sizeL, cntSS_append]
    omega
end
theorem cntSS_rexSets (r : Rex) (h : r.size ≤ 1048576) : cntSS (rexSets r) ≤ 2097152 := by
  unfold rexSets
  split
  · have := cntSS_sets r; omega
  · simp [cntSS]

set_option maxRecDepth 100000 in
set_option maxHeartbeats 8000000 in
theorem exRexSets_c (r0 : Rex) (p0 q0 : Value) (w : World) (h0 : RexV w 0 r0 (.int .i64 r0.kind) p0 q0) :
    Calls Try.prog 7 #[.agg #[.int .i64 r0.kind, p0, q0]] w fun e w' => e = .returned (.bool true) ∧ Below w.heap.size w w' := by
  obtain ⟨wa, hwa⟩ : ∃ x, x = w.alloc (.cells #[.int .i64 r0.kind, p0, q0] 25) := ⟨_, rfl⟩
  have hb : Below w.heap.size w wa := by rw [hwa]; exact below_alloc (Below.refl _ _) _
  have m0 : Blk wa w.heap.size #[.int .i64 r0.kind, p0, q0] 25 := by rw [hwa]; exact blk_new w _ _
  replace hwa := hwa.symm
  have HR := Lib.hid h0
  have M0 := Lib.hid m0
  have B0 := Lib.hid hb
  clear hb m0 h0
  have n0 : wa.cell? ⟨w.heap.size, 0, none⟩ = some (.int .i64 r0.kind) := by rw [M0.out.cell]; rfl
  have n0' : wa.cell? ⟨w.heap.size, 1, none⟩ = some (p0) := by rw [M0.out.cell]; rfl
  have n0'' : wa.cell? ⟨w.heap.size, 2, none⟩ = some (q0) := by rw [M0.out.cell]; rfl
  go_enter Try.func7, Try.ntmps7
  go_wp2_with fail
  clear hwa
  refine (szRex_c r0 _ _ (1048576 : Int) _ _ (HR.out.under B0.out) (by omega) (by omega)).mono ?_
  rintro e w1 ⟨rfl, b1⟩
  have B1 := Lib.hid (below_then B0.out b1)
  replace M0 := Lib.hid (M0.out.below b1)
  clear n0 n0' n0'' b1 B0
  have n0 : w1.cell? ⟨w.heap.size, 0, none⟩ = some (.int .i64 r0.kind) := by rw [M0.out.cell]; rfl
  have n0' : w1.cell? ⟨w.heap.size, 1, none⟩ = some (p0) := by rw [M0.out.cell]; rfl
  have n0'' : w1.cell? ⟨w.heap.size, 2, none⟩ = some (q0) := by rw [M0.out.cell]; rfl
  by_cases hb0 : (1048576 : Int) < r0.size
  · have hs := szLeft_neg hb0
    clear hb0
    go_wp2
    go_ret
    exact ⟨rfl, B1.out⟩
  rw [szLeft_pos hb0]
  have hx0 : r0.size ≤ 1048576 := by omega
  have hs : ¬ ((1048576 - r0.size : Int) < 0) := by omega
  clear hb0
  clear n0 n0' n0''
  have n0a : w1.cell? ⟨w.heap.size, 0, none⟩ = some (.int .i64 r0.kind) := by rw [M0.out.cell]; rfl
  have n0b : w1.cell? ⟨w.heap.size, 1, none⟩ = some (p0) := by rw [M0.out.cell]; rfl
  have n0c : w1.cell? ⟨w.heap.size, 2, none⟩ = some (q0) := by rw [M0.out.cell]; rfl
  go_wp2_with fail
  refine (toRex_r r0 p0 q0 w1 0 (HR.out.under B1.out) hx0).mono ?_
  rintro e w2 ⟨s2, t2, rfl, o2, b2⟩
  have B2 := Lib.hid (below_then B1.out b2)
  replace M0 := Lib.hid (M0.out.below b2)
  have O2 := Lib.hid o2
  clear n0a n0b n0c o2 b2 B1 hs
  go_wp2_with fail
  refine (sRexSets_c r0 _ _ _ _ O2.out hx0).mono ?_
  rintro e w3 ⟨vW, fpW, LW, rfl, ho, hf, b3⟩
  obtain ⟨T, hT⟩ : ∃ T, T = rexSets r0 := ⟨_, rfl⟩
  have hcT : cntSS T ≤ 2097152 := by rw [hT]; exact cntSS_rexSets r0 hx0
  rw [← hT] at ho
  have HTT := Lib.hid hT
  obtain ⟨KW, kW, rfl, _⟩ := ho.ssv
  have OW := Lib.hid ho
  have FW : Hid (∀ b, b ∈ fpW → w.heap.size ≤ b ∧ b < w3.heap.size) := fun b hb => ⟨Nat.le_trans B2.out.size (hf b hb), ho.lt b hb⟩
  have B3 := Lib.hid (below_then B2.out b3)
  replace M0 := Lib.hid (M0.out.below b3)
  have hw0 : w.heap.size < w3.heap.size := M0.out.lt
  clear O2 ho hf b3 B2 hT
  have n0a : w3.cell? ⟨w.heap.size, 0, none⟩ = some (.int .i64 r0.kind) := by rw [M0.out.cell]; rfl
  have n0b : w3.cell? ⟨w.heap.size, 1, none⟩ = some (p0) := by rw [M0.out.cell]; rfl
  have n0c : w3.cell? ⟨w.heap.size, 2, none⟩ = some (q0) := by rw [M0.out.cell]; rfl
  go_wp2_with fail
  refine (toRex_c r0 p0 q0 w3 0 (HR.out.under B3.out) hx0).mono ?_
  rintro e w4 ⟨s4, t4, fpX, rfl, ho, hn, hf, b4⟩
  obtain ⟨L4, fk4, _, _, hs4, hk4⟩ := ho.parts
  obtain ⟨A4, c4, rfl, _⟩ := hs4.sps
  obtain ⟨K4, k4, rfl, _, _⟩ := own_row hk4.hk
  have OX := Lib.hid ho
  have FX : Hid (∀ b, b ∈ fpX → w3.heap.size ≤ b ∧ b < w4.heap.size) := fun b hb => ⟨hf b hb, ho.lt b hb⟩
  have B5 := Lib.hid (below_then B3.out b4)
  replace M0 := Lib.hid (M0.out.below b4)
  replace OW := Lib.hid (OW.out.under b4)
  have hw34 : w3.heap.size ≤ w4.heap.size := b4.size
  clear n0a n0b n0c ho hn hf b4 hs4 hk4 B3
  obtain ⟨wb4, hwb⟩ : ∃ x, x = w4.alloc (.cells #[.int .i64 r0.kind, .slice A4 r0.set.length c4, .slice K4 r0.kids.length k4] TRx) := ⟨_, rfl⟩
  have bb : Below w4.heap.size w4 wb4 := by rw [hwb]; exact below_alloc (Below.refl _ _) _
  have x0 : Blk wb4 w4.heap.size #[.int .i64 r0.kind, .slice A4 r0.set.length c4, .slice K4 r0.kids.length k4] TRx := by rw [hwb]; exact blk_new _ _ _
  obtain ⟨gx, hgx⟩ : ∃ g, g = w4.heap.size := ⟨_, rfl⟩
  rw [← hgx] at x0 FX hw34
  have XX := Lib.hid x0
  have GX : Hid (gx < wb4.heap.size) := x0.lt
  replace M0 := Lib.hid (M0.out.below bb)
  replace OW := Lib.hid (OW.out.under bb)
  replace OX := Lib.hid (OX.out.under bb)
  have B6 := Lib.hid (below_then B5.out bb)
  clear x0 bb B5
  replace hwb := hwb.symm
  replace hgx := hgx.symm
  have nxa : wb4.cell? ⟨gx, 0, none⟩ = some (.int .i64 r0.kind) := by rw [XX.out.cell]; rfl
  have nxb : wb4.cell? ⟨gx, 1, none⟩ = some (.slice A4 r0.set.length c4) := by rw [XX.out.cell]; rfl
  have nxc : wb4.cell? ⟨gx, 2, none⟩ = some (.slice K4 r0.kids.length k4) := by rw [XX.out.cell]; rfl
  go_wp2_with fail
  clear hwb hgx
  refine (iRexSets_c r0 _ _ _ _ OX.out.rex0 hx0).mono ?_
  rintro e w5 ⟨vG, fpG, LG, rfl, ho, hf, b5⟩
  rw [← HTT.out] at ho
  obtain ⟨KG, kG, rfl, _⟩ := ho.ssv
  have OG := Lib.hid ho
  have FG : Hid (∀ b, b ∈ fpG → gx < b ∧ b < w5.heap.size) := fun b hb => ⟨Nat.lt_of_lt_of_le GX.out (hf b hb), ho.lt b hb⟩
  have B7 := Lib.hid (below_then B6.out b5)
  replace M0 := Lib.hid (M0.out.below b5)
  replace OW := Lib.hid (OW.out.under b5)
  replace OX := Lib.hid (OX.out.under b5)
  replace XX := Lib.hid (XX.out.below b5)
  clear nxa nxb nxc ho hf b5 B6 GX
  go_wp2_with fail
  refine (eqSpanSS_c _ _ _ _ T T w5 OG.out.read OW.out.read).mono ?_
  rintro e w6 ⟨rfl, b6⟩
  rw [decide_eq_true rfl]
  replace M0 := Lib.hid (M0.out.below (b6))
  replace OW := Lib.hid (OW.out.under (b6))
  replace OX := Lib.hid (OX.out.under (b6))
  replace OG := Lib.hid (OG.out.under (b6))
  replace XX := Lib.hid (XX.out.below (b6))
  have B9 := Lib.hid (below_then B7.out (b6))
  clear B7
  clear b6
  go_wp2
  have HM : ∀ w', Below w6.heap.size w6 w' → w'.cell? ⟨gx, 0, none⟩ = some (.int .i64 r0.kind) ∧ w'.cell? ⟨gx, 1, none⟩ = some (.slice A4 r0.set.length c4) ∧ w'.cell? ⟨gx, 2, none⟩ = some (.slice K4 r0.kids.length k4) ∧ w'.cell? ⟨w.heap.size, 0, none⟩ = some (.int .i64 r0.kind) ∧ w'.cell? ⟨w.heap.size, 1, none⟩ = some (p0) ∧ w'.cell? ⟨w.heap.size, 2, none⟩ = some (q0) := fun w' hb => ⟨by rw [(XX.out.below hb).cell]; rfl, by rw [(XX.out.below hb).cell]; rfl, by rw [(XX.out.below hb).cell]; rfl, by rw [(M0.out.below hb).cell]; rfl, by rw [(M0.out.below hb).cell]; rfl, by rw [(M0.out.below hb).cell]; rfl⟩
  have HMH := Lib.hid HM
  clear HM
  go_region_held3 (fun w' => w'.cell? ⟨gx, 0, none⟩ = some (.int .i64 r0.kind) ∧ w'.cell? ⟨gx, 1, none⟩ = some (.slice A4 r0.set.length c4) ∧ w'.cell? ⟨gx, 2, none⟩ = some (.slice K4 r0.kids.length k4) ∧ w'.cell? ⟨w.heap.size, 0, none⟩ = some (.int .i64 r0.kind) ∧ w'.cell? ⟨w.heap.size, 1, none⟩ = some (p0) ∧ w'.cell? ⟨w.heap.size, 2, none⟩ = some (q0))
    (first | exact HMH.out _ (Below.refl _ _) | exact HMH.out _ (below_drew (Below.refl _ _)) | exact HMH.out _ BA.out | exact HMH.out _ BD.out)
    (first
      | (go_at_call 16; with_reducible refine (toRex_r r0 p0 q0 w6.drew 0 (HR.out.under (below_drew B9.out)) hx0).mono ?_; rintro e wA ⟨s9, t9, rfl, o3, b3⟩; have BA := Lib.hid (below_then (below_drew (Below.refl w6.heap.size w6)) b3); have O9 := Lib.hid o3; clear o3 b3)
      | (go_at_call 18; with_reducible refine (eqRex_r r0 r0 _ _ _ _ wA _ _ (OX.out.rex0.under BA.out) O9.out).mono ?_; rintro e w7 ⟨rfl, b5⟩; have BD := Lib.hid (below_then BA.out b5); clear b5; rw [(rexEq_iff r0 r0).2 rfl]))
  replace M0 := Lib.hid (M0.out.below (BD.out))
  replace OW := Lib.hid (OW.out.under (BD.out))
  replace OX := Lib.hid (OX.out.under (BD.out))
  replace OG := Lib.hid (OG.out.under (BD.out))
  replace XX := Lib.hid (XX.out.below (BD.out))
  have B10 := Lib.hid (below_then B9.out (BD.out))
  clear B9
  clear BA BD O9 HMH
  have hcx : r0.cnt ≤ 4194304 := by have := cnt_size r0; omega
  have nxa : w7.cell? ⟨gx, 0, none⟩ = some (.int .i64 r0.kind) := by rw [XX.out.cell]; rfl
  have nxb : w7.cell? ⟨gx, 1, none⟩ = some (.slice A4 r0.set.length c4) := by rw [XX.out.cell]; rfl
  have nxc : w7.cell? ⟨gx, 2, none⟩ = some (.slice K4 r0.kids.length k4) := by rw [XX.out.cell]; rfl
  go_wp2_with fail
  refine (markRex_c r0 _ _ fpX 1 w7 OX.out (by omega) (by omega)).mono ?_
  rintro e w8 ⟨rfl, _, t8⟩
  have hq8 : ¬ (1 + (r0.cnt : Int) < 0) := by omega
  replace M0 := Lib.hid (M0.out.touch t8 fun h => by have := FX.out _ h; omega)
  have B11 := Lib.hid (below_touch B10.out t8 fun b hb => by have := FX.out _ hb; omega)
  clear B10
  replace OW := Lib.hid (OW.out.stay fun b hb => t8.block b (OW.out.lt b hb) fun h => by have h1 := FX.out _ h; have h2 := FW.out _ hb; omega)
  replace OG := Lib.hid (OG.out.stay fun b hb => t8.block b (OG.out.lt b hb) fun h => by have h1 := FX.out _ h; have h2 := FG.out _ hb; omega)
  clear nxa nxb nxc t8 OX XX
  go_wp2_with fail
  refine (eqSpanSS_c _ _ _ _ T T w8 OG.out.read OW.out.read).mono ?_
  rintro e w9 ⟨rfl, b9⟩
  rw [decide_eq_true rfl]
  clear hq8
  replace M0 := Lib.hid (M0.out.below (b9))
  replace OW := Lib.hid (OW.out.under (b9))
  replace OG := Lib.hid (OG.out.under (b9))
  have B12 := Lib.hid (below_then B11.out (b9))
  clear B11 b9
  go_wp2_with fail
  refine (markSpanSS_c T _ _ LG fpG 1 w9 OG.out (by omega) (by omega)).mono ?_
  rintro e w10 ⟨rfl, og, t10⟩
  replace M0 := Lib.hid (M0.out.touch t10 fun h => by have := FG.out _ h; omega)
  have B13 := Lib.hid (below_touch B12.out t10 fun b hb => by have := FG.out _ hb; omega)
  clear B12
  replace OW := Lib.hid (OW.out.stay fun b hb => t10.block b (OW.out.lt b hb) fun h => by have h1 := FG.out _ h; have h2 := FW.out _ hb; omega)
  have hml := markSS_length T 1
  rw [← hml] at og
  replace OG := Lib.hid og
  have HH : ∀ wx : World, OwnSS wx fpG (.slice KG (markSS 1 T).length kG) (markSS 1 T) LG → Calls Try.prog 30 #[.slice KG T.length kG, .int .i64 1] wx fun e w' => e = .returned (.int .i64 (1 + cntSS T)) ∧ Below wx.heap.size wx w' := fun wx ho => by
    have := heldSpanSS_c T (markSS 1 T) KG kG 1 wx rfl ho.read (by omega) (by omega)
    rw [hml] at this
    exact this.mono fun e w' ⟨h1, h2⟩ => ⟨h1, h2.below⟩
  have HHH := Lib.hid HH
  clear t10 og HH hml
  go_wp2_with fail
  refine (HHH.out w10 OG.out).mono ?_
  rintro e w11 ⟨rfl, b11⟩
  have hq8 : ¬ (1 + (cntSS T : Int) < 0) := by omega
  replace M0 := Lib.hid (M0.out.below (b11))
  replace OW := Lib.hid (OW.out.under (b11))
  replace OG := Lib.hid (OG.out.under (b11))
  have B14 := Lib.hid (below_then B13.out (b11))
  clear B13 b11
  have n0a : w11.cell? ⟨w.heap.size, 0, none⟩ = some (.int .i64 r0.kind) := by rw [M0.out.cell]; rfl
  have n0b : w11.cell? ⟨w.heap.size, 1, none⟩ = some (p0) := by rw [M0.out.cell]; rfl
  have n0c : w11.cell? ⟨w.heap.size, 2, none⟩ = some (q0) := by rw [M0.out.cell]; rfl
  go_wp2_with fail
  refine (toRex_r r0 p0 q0 w11 0 (HR.out.under B14.out) hx0).mono ?_
  rintro e w12 ⟨s2, t2, rfl, o2, b12⟩
  have O2 := Lib.hid o2
  replace M0 := Lib.hid (M0.out.below (b12))
  replace OW := Lib.hid (OW.out.under (b12))
  replace OG := Lib.hid (OG.out.under (b12))
  have B15 := Lib.hid (below_then B14.out (b12))
  clear B14 b12
  clear n0a n0b n0c o2
  go_wp2_with fail
  refine (iRexSets_c r0 _ _ _ _ O2.out hx0).mono ?_
  rintro e w13 ⟨vH, fpH, LH, rfl, ho, hf, b13⟩
  rw [← HTT.out] at ho
  obtain ⟨KH, kH, rfl, _⟩ := ho.ssv
  have OH := Lib.hid ho.read
  clear ho hf O2
  replace M0 := Lib.hid (M0.out.below (b13))
  replace OW := Lib.hid (OW.out.under (b13))
  replace OG := Lib.hid (OG.out.under (b13))
  have B16 := Lib.hid (below_then B15.out (b13))
  clear B15 b13
  go_wp2_with fail
  refine (eqSpanSS_c _ _ _ _ T T w13 OH.out OW.out.read).mono ?_
  rintro e w14 ⟨rfl, b14⟩
  rw [decide_eq_true rfl]
  replace M0 := Lib.hid (M0.out.below (b14))
  replace OW := Lib.hid (OW.out.under (b14))
  replace OG := Lib.hid (OG.out.under (b14))
  have B17 := Lib.hid (below_then B16.out (b14))
  clear B16 b14
  clear OH
  go_wp2_with fail
  refine (HHH.out w14 OG.out).mono ?_
  rintro e w15 ⟨rfl, b15⟩
  have B19 := Lib.hid (below_then B17.out b15)
  clear b15
  go_wp2
  go_ret
  exact ⟨rfl, B19.out⟩

end Go.Proofs.Ytiaccimbkghofaa

/- same, the two SetSame, the two MatchWord. -/
namespace Go.Proofs.Ytiaccimbkghofaa
set_option linter.unusedSimpArgs false
set_option linter.unusedVariables false
open Go.RowKit

theorem uSp : Try.prog.underlying TSp = some (.struct (Try.prog.fieldsOf TSp)) := by kernel_rfl
theorem sSp : Try.prog.stoodInHeld TSp = false := by kernel_rfl
theorem gSp : Try.prog.eqGuardType Try.prog.depth TSp = false := by kernel_rfl
theorem fSp : (Try.prog.fieldsOf TSp).toList.map (fun f => (f.name == "_", f.type, f.offset)) = [(false, 3, 0), (false, 3, 1)] := by kernel_rfl
theorem neqSp (x y : Sp) (w : World) : (binOp .neq TSp (.agg #[.int .i64 x.lo, .int .i64 x.hi]) (.agg #[.int .i64 y.lo, .int .i64 y.hi])).run Try.prog w = .ok (.bool (!decide (x = y))) w := by
  rw [run_neq_struct, run_equalIn_struct (P := Try.prog) w 9999 TSp _ _ uSp sSp]
  have hf := fSp
  generalize (Try.prog.fieldsOf TSp).toList = l at hf
  obtain ⟨f0, f1, rfl⟩ : ∃ f0 f1, l = [f0, f1] := by
    have := congrArg List.length hf
    rw [List.length_map] at this
    rcases l with _ | ⟨f0, _ | ⟨f1, _ | ⟨f2, l⟩⟩⟩ <;> simp at this
    exact ⟨f0, f1, rfl⟩
  · simp only [List.map_cons, List.map_nil, List.cons.injEq, Prod.mk.injEq, and_true] at hf
    obtain ⟨⟨n0, t0, o0⟩, n1, t1, o1⟩ := hf
    have n0' : ¬ f0.name = "_" := by simpa using n0
    have n1' : ¬ f1.name = "_" := by simpa using n1
    have p0 : ∀ a b : Int, (part 3 #[.int .i64 a, .int .i64 b] 0).run Try.prog w = .ok (.int .i64 a) w := by
      intro a b
      kernel_rfl
    have p1 : ∀ a b : Int, (part 3 #[.int .i64 a, .int .i64 b] 1).run Try.prog w = .ok (.int .i64 b) w := by
      intro a b
      kernel_rfl
    have q : ∀ a b : Int, (Op.equalIn 9999 3 (.int .i64 a) (.int .i64 b)).run Try.prog w = .ok (a == b) w := fun a b => run_equalIn_int w 9998 _ _ .i64 a b Try.underlying3
    simp only [Op.eqFields, ne_eq, n0', n1', not_false_eq_true, if_true, Sem.run_bind, t0, t1, o0, o1, p0, p1, q, Result.andThen_ok]
    by_cases c0 : x.lo = y.lo
    · by_cases c1 : x.hi = y.hi
      · have e : x = y := by cases x; cases y; simp at c0 c1; rw [c0, c1]
        subst e
        simp [p1, q]
      · have e : x ≠ y := by rintro rfl; exact c1 rfl
        simp [c0, c1, e, p1, q]
    · have e : x ≠ y := by rintro rfl; exact c0 rfl
      simp [c0, e]

set_option maxHeartbeats 1000000 in
theorem same_c (A B : Option Addr) (c d : Nat) (xs ys : List Sp) (w : World) {lo lo' : Nat} (h : Sps w lo A c xs) (h' : Sps w lo' B d ys) :
    Calls Try.prog 51 #[.slice A xs.length c, .slice B ys.length d] w fun e w' => e = .returned (.bool (decide (xs = ys))) ∧ Drawn w w' := by
  have hlen := h.len
  have hlen' := h'.len
  unfold maxN at hlen hlen'
  by_cases he : xs.length = ys.length
  · have b1 : ((xs.length : Int) != (ys.length : Int)) = false := by simp [he]
    have HE : Hid (xs.length = ys.length) := he
    clear he
    go_enter Try.func51, Try.ntmps51
    go_wp2
    go_loopg [13] (xs.length) (fun n i wr => ∃ k : Nat, k + n = xs.length ∧ i = .int .i64 k ∧ Hid (decide (xs.drop k = ys.drop k) = decide (xs = ys)) ∧ Drawn w wr)
    case atStart => exact ⟨0, by omega, rfl, by rw [List.drop_zero, List.drop_zero]; rfl, Drawn.refl _⟩
    case round =>
      obtain ⟨k, hk, rfl, HS, m, rfl⟩ := hrel
      by_cases hlt : k < xs.length
      · have hlt' : k < ys.length := by have := HE.out; omega
        obtain ⟨a, x, rfl, _, HD, h0, h1⟩ := h.at_ k hlt
        obtain ⟨a', y, rfl, _, HD', h0', h1'⟩ := h'.at_ k hlt'
        have ST : Hid _ := drop_eq_step HD.out HD'.out HS.out
        have N0 := fun wx => neqSp x y wx
        have N1 := gSp
        go_wp2
        go_quiet (fail)
        go_wp2
        · go_ret
          exact ⟨ret_bool (ST.out.1 (by simpa using ‹(!decide (x = y)) = true›)).symm, drewN_drewN _ _ _⟩
        · go_roundg (gk - 1)
          case rel => exact ⟨k + 1, by omega, by go_num, ST.out.2 (by simpa using ‹(!decide (x = y)) = false›), ⟨_, rfl⟩⟩
          case measure => omega
      · go_wp2
        go_ret
        exact ⟨ret_bool (by rw [← HS.out, List.drop_of_length_le (by omega), List.drop_of_length_le (by have := HE.out; omega)]; rfl), _, rfl⟩
  · have b1 : ((xs.length : Int) != (ys.length : Int)) = true := by simp; omega
    have b2 : (xs.length == ys.length) = false := by simp [he]
    have C : Hid (decide (xs = ys) = false) := decide_eq_false (by rintro rfl; exact he rfl)
    clear he
    go_enter Try.func51, Try.ntmps51
    go_wp2
    go_ret
    exact ⟨ret_bool C.out.symm, Drawn.refl _⟩

end Go.Proofs.Ytiaccimbkghofaa

/- Sets as 256 bits in memory. -/
namespace Go.Proofs.Ytiaccimbkghofaa
set_option linter.unusedSimpArgs false
set_option linter.unusedVariables false
open Go.RowKit

/-! ### 256 bits -/
abbrev TBits : Nat := 75
def bitCells (f : Nat → Bool) : List Value := (List.range 256).map fun i => .bool (f i)
theorem bitCells_length (f : Nat → Bool) : (bitCells f).length = 256 := by simp [bitCells]
theorem bitCells_get (f : Nat → Bool) (i : Nat) (h : i < 256) : (bitCells f)[i]? = some (.bool (f i)) := by simp [bitCells, h]
theorem bitCells_congr {f g : Nat → Bool} (h : ∀ i, i < 256 → f i = g i) : bitCells f = bitCells g := by
  unfold bitCells
  exact List.map_congr_left fun i hi => by rw [h i (List.mem_range.1 hi)]
theorem bitCells_set (f : Nat → Bool) (k : Nat) (b : Bool) : (bitCells f).set k (.bool b) = bitCells fun i => if i = k then b else f i := by
  apply List.ext_getElem?
  intro j
  rw [List.getElem?_set]
  by_cases hj : j < 256
  · have e := bitCells_get (fun i => if i = k then b else f i) _ hj
    rw [e, bitCells_length]
    by_cases hk : k = j
    · subst hk
      simp [hj]
    · rw [if_neg hk, bitCells_get _ _ hj, if_neg (fun e => hk e.symm)]
  · rw [List.getElem?_eq_none (by rw [bitCells_length]; omega : (bitCells fun i => if i = k then b else f i).length ≤ j), bitCells_length, List.getElem?_eq_none (by rw [bitCells_length]; omega : (bitCells f).length ≤ j)]
    split
    · rw [if_neg (by omega)]
    · rfl
theorem bitCells_one (f : Nat → Bool) : ∀ u ∈ bitCells f, u.oneCell' = true := by
  intro u hu
  obtain ⟨i, _, rfl⟩ := List.mem_map.1 hu
  rfl
theorem infoBits : (Try.prog.info? TBits).map (·.zero) = some (some (.agg (bitCells fun _ => false).toArray)) := by kernel_rfl
theorem sizeBits : (Try.prog.info? TBits).map (·.size) = some 256 := by kernel_rfl
theorem uBits : Try.prog.underlying TBits = some (.array 256 4) := Try.underlying75
theorem sizeBits' (f : Nat → Bool) : (Try.prog.info? TBits).map (·.size) = some (bitCells f).length := by rw [sizeBits, bitCells_length]
/-- an element of such a value -/
theorem run_index_bits (f : Nat → Bool) (k : Nat) (hk : k < 256) (w : World) : (Instr.index TBits (.agg (bitCells f).toArray) (.int .i64 k)).run Try.prog w = .ok (.bool (f k)) w := by
  have hu : Try.prog.underlying TBits = some (.array 256 4) := Try.underlying75
  obtain ⟨i, hi, hz⟩ := Option.map_eq_some_iff.1 (show (Try.prog.info? 4).map (·.size) = some 1 by kernel_rfl)
  simp [Instr.index, asIntOf, run_underlying hu, hk, sizeOf, typeInfo, hi, hz, part, isAgg, run_underlying Try.underlying4, bitCells_get f k hk]

end Go.Proofs.Ytiaccimbkghofaa

/- in, SetHas. -/
namespace Go.Proofs.Ytiaccimbkghofaa
set_option linter.unusedSimpArgs false
set_option linter.unusedVariables false
open Go.RowKit

theorem in_c (n lo hi : Int) (w : World) :
    Calls Try.prog 79 #[.int .i64 n, .int .i64 lo, .int .i64 hi] w fun e w' => e = .returned (.bool (decide (lo ≤ n) && decide (n ≤ hi))) ∧ w = w' := by
  go_enter Try.func79, Try.ntmps79
  go_wp2
  all_goals go_ret
  · exact ⟨ret_bool (by rw [decide_eq_true (by assumption : lo ≤ n)]; rfl), rfl⟩
  · exact ⟨ret_bool (by rw [decide_eq_false (by omega : ¬ lo ≤ n)]; rfl), rfl⟩

theorem spIn_true {x : Sp} {b : Int} (h : x.lo ≤ b ∧ b ≤ x.hi) : spIn x b = true := (spIn_iff x b).2 h
theorem spIn_false {x : Sp} {b : Int} (h : b < x.lo ∨ x.hi < b) : spIn x b = false := by
  rw [Bool.eq_false_iff]
  intro hc
  have := (spIn_iff x b).1 hc
  omega

theorem iSetHas_c (A : Option Addr) (c : Nat) (xs : List Sp) (b : Int) (w : World) {lo : Nat} (h : Sps w lo A c xs) :
    Calls Try.prog 97 #[.slice A xs.length c, .int .i64 b] w fun e w' => e = .returned (.bool (setHas xs b)) ∧ Below w.heap.size w w' := by
  have hlen := h.len
  unfold maxN at hlen
  go_enter Try.func97, Try.ntmps97
  go_wp2
  go_loopg [9] (xs.length) (fun n i wr => ∃ k : Nat, k + n = xs.length ∧ i = .int .i64 k ∧ Hid (setHas (xs.drop k) b = setHas xs b) ∧ Below w.heap.size w wr)
  case atStart => exact ⟨0, by omega, rfl, by rw [List.drop_zero]; rfl, Below.refl _ _⟩
  case round =>
    obtain ⟨k, hk, rfl, HS, hb⟩ := hrel
    by_cases hlt : k < xs.length
    · obtain ⟨a, x, rfl, _, HD, h0, h1⟩ := (h.below hb).at_ k hlt
      go_wp2_with (go_at_call 79; refine (in_c _ _ _ _).mono ?_; rintro e w' ⟨rfl, rfl⟩)
      · go_ret
        exact ⟨ret_bool (by rw [← HS.out, HD.out, setHas_cons, spIn_true (by assumption)]; rfl), below_alloc hb _⟩
      · go_roundg (gk - 1)
        case rel => exact ⟨k + 1, by omega, by go_num, by rw [← HS.out, HD.out, setHas_cons, spIn_false (by assumption)]; rfl, below_alloc hb _⟩
        case measure => omega
    · go_wp2
      go_ret
      exact ⟨ret_bool (by rw [← HS.out, List.drop_of_length_le (by omega)]; rfl), hb⟩

theorem sSetHas_c (A : Option Addr) (c : Nat) (xs : List Sp) (b : Int) (w : World) {lo : Nat} (h : Sps w lo A c xs) :
    Calls Try.prog 94 #[.slice A xs.length c, .int .i64 b] w fun e w' => e = .returned (.bool (setHas xs b)) ∧ Drawn w w' := by
  have hlen := h.len
  unfold maxN at hlen
  go_enter Try.func94, Try.ntmps94
  go_wp2
  go_loopg [5] (xs.length) (fun n i wr => ∃ k : Nat, k + n = xs.length ∧ i = .int .i64 k ∧ Hid (setHas (xs.drop k) b = setHas xs b) ∧ Drawn w wr)
  case atStart => exact ⟨0, by omega, rfl, by rw [List.drop_zero]; rfl, 0, rfl⟩
  case round =>
    obtain ⟨k, hk, rfl, HS, n, rfl⟩ := hrel
    by_cases hlt : k < xs.length
    · obtain ⟨a, x, rfl, _, HD, h0, h1⟩ := h.at_ k hlt
      by_cases h2 : x.lo ≤ b
      · go_wp2
        · go_ret
          exact ⟨ret_bool (by rw [← HS.out, HD.out, setHas_cons, spIn_true ⟨h2, by assumption⟩]; rfl), n, rfl⟩
        · go_roundg (gk - 1)
          case rel => exact ⟨k + 1, by omega, by go_num, by rw [← HS.out, HD.out, setHas_cons, spIn_false (.inr (by omega))]; rfl, n, rfl⟩
          case measure => omega
      · go_wp2
        go_roundg (gk - 1)
        case rel => exact ⟨k + 1, by omega, by go_num, by rw [← HS.out, HD.out, setHas_cons, spIn_false (.inl (by omega))]; rfl, n, rfl⟩
        case measure => omega
    · go_wp2
      go_ret
      exact ⟨ret_bool (by rw [← HS.out, List.drop_of_length_le (by omega)]; rfl), n, rfl⟩

end Go.Proofs.Ytiaccimbkghofaa

/- bitsOf: the bits of a set. -/
namespace Go.Proofs.Ytiaccimbkghofaa
set_option linter.unusedSimpArgs false
set_option linter.unusedVariables false
open Go.RowKit

theorem bit_cell {w : World} {g : Nat} {f : Nat → Bool} (h : Blk w g (bitCells f).toArray TBits) (k : Nat) (hk : k < 256) : w.cell? ⟨g, k, none⟩ = some (.bool (f k)) := by
  rw [h.cell]
  simpa using bitCells_get f k hk
theorem bit_set {w : World} {g : Nat} {f : Nat → Bool} (h : Blk w g (bitCells f).toArray TBits) (k : Nat) (b : Bool) : Blk (w.setCell ⟨g, k, none⟩ (.bool b)) g (bitCells fun i => if i = k then b else f i).toArray TBits := by
  have := h.set k (.bool b)
  rw [show (bitCells f).toArray.setIfInBounds k (.bool b) = ((bitCells f).set k (.bool b)).toArray by simp, bitCells_set] at this
  exact this

set_option maxHeartbeats 1000000 in
set_option maxRecDepth 100000 in
theorem bitsOf_c (A : Option Addr) (c : Nat) (xs : List Sp) (w : World) {lo : Nat} (h : Sps w lo A c xs) :
    Calls Try.prog 84 #[.slice A xs.length c] w fun e w' => e = .returned (.agg (bitCells fun i => setHas xs i).toArray) ∧ Below w.heap.size w w' := by
  go_enter Try.func84, Try.ntmps84
  go_wp2_with (first
    | (with_reducible refine ev_alloc (o := ⟨some 2, _, _, _, _, _⟩) rfl TBits rfl _ infoBits ?_; rintro _ w2 rfl hB2 hb2)
    | (with_reducible refine ev_alloc (o := ⟨some 3, _, _, _, _, _⟩) rfl TBits rfl _ infoBits ?_; rintro _ w3 rfl hB3 hb3))
  have HR : Hid (Blk w3 w.heap.size (bitCells fun _ => false).toArray TBits) := hB2.below hb3
  have HB : Hid (Below w.heap.size w w3) := below_then hb2 hb3
  have HO : Hid (Blk w3 w2.heap.size (bitCells fun _ => false).toArray TBits) := hB3
  have hlt := hB2.lt
  clear hB2 hB3 hb2 hb3
  go_loopg [5] 256 (fun n i wr => ∃ k : Nat, Hid (k + n = 256) ∧ i = .int .i64 k ∧ ∃ f : Nat → Bool, Hid (Blk wr w2.heap.size (bitCells f).toArray TBits) ∧ Hid (∀ j, j < k → f j = setHas xs j) ∧ Hid (Blk wr w.heap.size (bitCells fun _ => false).toArray TBits) ∧ Hid (Below w.heap.size w wr))
  case atStart => exact ⟨0, rfl, rfl, _, HO, fun j hj => absurd hj (Nat.not_lt_zero _), HR, HB⟩
  case round =>
    clear HO HR HB
    obtain ⟨k, hk, rfl, f, HO, HF, HR, HB⟩ := hrel
    by_cases hk2 : k < 256
    · go_wp2_with fail
      refine (iSetHas_c _ _ _ _ _ (h.below HB.out)).mono ?_
      rintro e w4 ⟨rfl, hb⟩
      have HO2 : Hid _ := HO.out.below hb
      have HR2 : Hid _ := HR.out.below hb
      have HB2 : Hid _ := below_then HB.out hb
      have c0 := bit_cell HO2.out k hk2
      have f0 := HO2.out.free k
      clear HO HR HB hb
      go_wp2
      go_roundg (gk - 1)
      case rel =>
        refine ⟨k + 1, by have := hk.out; show _ = _; omega, by go_num, _, bit_set HO2.out k _, ?_, HR2.out.far (by simp; omega) _, below_set HB2.out (by simp; omega) _⟩
        intro j hj
        by_cases e : j = k
        · rw [if_pos e, e]
        · rw [if_neg e]
          exact HF.out j (by omega)
      case measure => have := hk.out; omega
    · have hF : bitCells f = bitCells fun i => setHas xs i := bitCells_congr fun i hi => HF.out i (by omega)
      go_wp2_with (first
        | (with_reducible refine ev_load (o := ⟨some 14, _, _, _, _, _⟩) rfl TBits _ rfl w2.heap.size rfl (bitCells f) TBits HO.out _ uBits rfl (sizeBits' f) ?_)
        | (with_reducible refine ev_store (o := ⟨none, _, _, _, _, _⟩) rfl rfl TBits (.tmp 2) (.tmp 14) rfl w.heap.size 0 rfl (bitCells f) rfl (bitCells fun _ => false).toArray TBits HR.out (sizeBits' f) (by simp [bitCells_length]) (bitCells_one f) ?_; intro w5 hs hg))
      have hs' : Blk w5 w.heap.size (bitCells fun i => setHas xs i).toArray TBits := by
        rw [← hF]
        rw [List.take_zero, List.nil_append, List.drop_of_length_le (by rw [bitCells_length, bitCells_length]; omega), List.append_nil] at hs
        exact hs
      exact bodyPost_ret (results_cell_row rfl _ _ w.heap.size TBits _ (0, 0) _ rfl hs'.eq uBits rfl (by rw [sizeBits]; simp [bitCells_length])) rfl ⟨rfl, HB.out.grown hg HB.out.size (fun k hk => by injection hk with hk; omega)⟩

end Go.Proofs.Ytiaccimbkghofaa

/- spans: the set of bits. -/
namespace Go.Proofs.Ytiaccimbkghofaa
set_option linter.unusedSimpArgs false
set_option linter.unusedVariables false
open Go.RowKit

set_option maxRecDepth 100000 in
set_option maxHeartbeats 2000000 in
theorem spans_c (f : Nat → Bool) (w : World) :
    Calls Try.prog 85 #[.agg (bitCells f).toArray] w fun e w' => ∃ v, e = .returned v ∧ OwnSp w' w.heap.size v (spansOf f) ∧ Below w.heap.size w w' := by
  obtain ⟨i0, hi, hz0, hz1, hz2⟩ := info_parts infoSp
  go_enter Try.func85, Try.ntmps85
  go_wp2_with (first
    | (with_reducible refine ev_box (o := ⟨some 1, _, _, _, _, _⟩) rfl TBits (.tmp 0) rfl _ rfl ?_; rintro _ w1 rfl hX hb1)
    | (with_reducible refine ev_load (o := ⟨some 6, _, _, _, _, _⟩) rfl TBits _ rfl w.heap.size rfl (bitCells f) TBits hX _ uBits rfl (sizeBits' f) ?_))
  have HX : Hid (Blk w1 w.heap.size (bitCells f).toArray TBits) := hX
  have HB : Hid (Below w.heap.size w w1) := hb1
  have hlt := hX.lt
  clear hX hb1
  go_loopg [3, 7] 256 (fun n v i wr => ∃ k : Nat, Hid (k + n = 256) ∧ i = .int .i64 k ∧ Hid (OwnSp wr (w.heap.size + 1) v (spansTo f k)) ∧ Hid (Blk wr w.heap.size (bitCells f).toArray TBits) ∧ Hid (Below w.heap.size w wr))
  case atStart => exact ⟨0, rfl, rfl, OwnSp.nil _ _, HX, HB⟩
  case round =>
    clear HX HB
    obtain ⟨k, hk, rfl, HO, HX, HB⟩ := hrel
    by_cases hk2 : k < 256
    · have hix := fun wx => run_index_bits f k hk2 wx
      have hlen := spansTo_length f k
      by_cases hf : f k = true
      · rw [hf] at hix
        by_cases hp : 0 < k ∧ f (k - 1) = true
        · obtain ⟨x, hx1, hx2, _, hx4⟩ := spansTo_ext hf hp.1 hp.2 (by omega)
          obtain ⟨g, cap, rfl, hg, _⟩ := own_form HO.out.own hx2
          obtain ⟨x', HX', c0, c1, f0, f1⟩ := HO.out.cells ((spansTo f k).length - 1) (by omega)
          obtain rfl : x = x' := by
            have := HX'.out
            rw [hx1] at this
            exact Option.some.inj this
          have c2 := bit_cell HX.out (k - 1) (by omega)
          rw [hp.2] at c2
          have d4 : decide (0 < k) = true := decide_eq_true hp.1
          have E : Hid (spansTo f (k + 1) = (spansTo f k).set ((spansTo f k).length - 1) ⟨x.lo, k⟩) := hx4
          have k1 : 1 ≤ k := hp.1
          have HX1 : Hid (_ = _) := hx1
          clear hf hp hx1 hx4 HX'
          go_wp2
          go_roundg (gk - 1)
          case rel => exact ⟨k + 1, by have := hk.out; show _ = _; omega, by go_num, by rw [E.out]; exact HO.out.setHi _ x HX1.out _, HX.out.far (by simp; omega) _, below_set HB.out (by simp; omega) _⟩
          case measure => have := hk.out; omega
        · have hp' : k = 0 ∨ f (k - 1) = false := by
            rcases Nat.eq_zero_or_pos k with h0 | h0
            · exact .inl h0
            · exact .inr (by simpa using fun h => hp ⟨h0, h⟩)
          have E : Hid (spansTo f (k + 1) = spansTo f k ++ [⟨k, k⟩]) := spansTo_new hf hp'
          have A1 : ∀ wx : World, OwnSp wx (w.heap.size + 1) u3 (spansTo f k) → wx.ownsRow (w.heap.size + 1) TSp 2 u3 (spansTo f k).length (spcs (spansTo f k)) := fun wx h => h.own
          have hsz : w.heap.size + 1 ≤ wr.heap.size := by have := HX.out.lt; omega
          clear hp hf
          rcases hp' with h0 | h0
          · have d4 : decide (0 < k) = false := decide_eq_false (by omega)
            have HH : Hid (k = 0) := h0
            clear h0
            go_wp2_with (at_builtin; refine wpList_append_own _ rfl (.tmp 11) (.tmp 15) 28 rfl (w.heap.size + 1) TSp i0 (.agg #[.int .i64 0, .int .i64 0]) 2 16 Try.underlying28 hi hz0 hz1 hz2 rfl (by decide) u3 _ _ rfl (HO.out.own.alloc _) ⟨wr.heap.size, 0, none⟩ 1 1 [.int .i64 k, .int .i64 k] rfl rfl (new_cells wr [.int .i64 k, .int .i64 k] TSp) (two_one _ _) (by unfold maxLen; omega) (by omega) (by simp; omega) ?_; intro v' w2 hown' hgrow _)
            have hbs := own_base HO.out.own
            go_roundg (gk - 1)
            case rel => exact ⟨k + 1, by have := hk.out; show _ = _; omega, by go_num, by rw [E.out]; exact OwnSp.snoc hown', (HX.out.alloc _).grown hgrow (fun q hq => by have := (hbs q hq).1; omega), (below_alloc HB.out _).grown hgrow (by simp; omega) (fun q hq => by have := (hbs q hq).1; omega)⟩
            case measure => have := hk.out; omega
          · by_cases hk0 : k = 0
            · have d4 : decide (0 < k) = false := decide_eq_false (by omega)
              have HH : Hid (k = 0) := hk0
              clear h0 hk0
              go_wp2_with (at_builtin; refine wpList_append_own _ rfl (.tmp 11) (.tmp 15) 28 rfl (w.heap.size + 1) TSp i0 (.agg #[.int .i64 0, .int .i64 0]) 2 16 Try.underlying28 hi hz0 hz1 hz2 rfl (by decide) u3 _ _ rfl (HO.out.own.alloc _) ⟨wr.heap.size, 0, none⟩ 1 1 [.int .i64 k, .int .i64 k] rfl rfl (new_cells wr [.int .i64 k, .int .i64 k] TSp) (two_one _ _) (by unfold maxLen; omega) (by omega) (by simp; omega) ?_; intro v' w2 hown' hgrow _)
              have hbs := own_base HO.out.own
              go_roundg (gk - 1)
              case rel => exact ⟨k + 1, by have := hk.out; show _ = _; omega, by go_num, by rw [E.out]; exact OwnSp.snoc hown', (HX.out.alloc _).grown hgrow (fun q hq => by have := (hbs q hq).1; omega), (below_alloc HB.out _).grown hgrow (by simp; omega) (fun q hq => by have := (hbs q hq).1; omega)⟩
              case measure => have := hk.out; omega
            · have d4 : decide (0 < k) = true := decide_eq_true (by omega)
              have c2 := bit_cell HX.out (k - 1) (by omega)
              rw [h0] at c2
              have k1 : 1 ≤ k := by omega
              clear h0 hk0
              go_wp2_with (at_builtin; refine wpList_append_own _ rfl (.tmp 11) (.tmp 15) 28 rfl (w.heap.size + 1) TSp i0 (.agg #[.int .i64 0, .int .i64 0]) 2 16 Try.underlying28 hi hz0 hz1 hz2 rfl (by decide) u3 _ _ rfl (HO.out.own.alloc _) ⟨wr.heap.size, 0, none⟩ 1 1 [.int .i64 k, .int .i64 k] rfl rfl (new_cells wr [.int .i64 k, .int .i64 k] TSp) (two_one _ _) (by unfold maxLen; omega) (by omega) (by simp; omega) ?_; intro v' w2 hown' hgrow _)
              have hbs := own_base HO.out.own
              go_roundg (gk - 1)
              case rel => exact ⟨k + 1, by have := hk.out; show _ = _; omega, by go_num, by rw [E.out]; exact OwnSp.snoc hown', (HX.out.alloc _).grown hgrow (fun q hq => by have := (hbs q hq).1; omega), (below_alloc HB.out _).grown hgrow (by simp; omega) (fun q hq => by have := (hbs q hq).1; omega)⟩
              case measure => have := hk.out; omega
      · have hf' : f k = false := by simpa using hf
        rw [hf'] at hix
        have E : Hid (spansTo f (k + 1) = spansTo f k) := spansTo_no hf'
        clear hf hf'
        go_wp2
        go_roundg (gk - 1)
        case rel => exact ⟨k + 1, by have := hk.out; show _ = _; omega, by go_num, by rw [E.out]; exact HO, HX, HB⟩
        case measure => have := hk.out; omega
    · have HK : Hid (k = 256) := by have := hk.out; show _ = _; omega
      obtain ⟨A, c, rfl, hs⟩ := HO.out.sps
      have hlen := spansTo_length f k
      have hl2 : (spansTo f k).length ≤ 256 := by have := HK.out; omega
      go_wp2_with (go_at_call 90; refine (copiedSpan_c A c _ (spcs (spansTo f k)) _ hs.row (spcs_length _) (spcs_one _) (by omega)).mono ?_; rintro e w4 ⟨v4, rfl, o4, b4⟩)
      go_ret
      have := HK.out
      subst this
      exact ⟨_, rfl, ⟨own_lower o4 HB.out.size, by show (spansTo f 256).length ≤ _; unfold maxN; omega⟩, below_then HB.out b4⟩

end Go.Proofs.Ytiaccimbkghofaa
