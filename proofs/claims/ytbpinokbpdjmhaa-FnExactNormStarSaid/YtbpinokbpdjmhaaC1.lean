/- rexCopy: a tree in new memory. -/
import Derived.Test.YtbpinokbpdjmhaaC0
import Derived.Test.YtbpinokbpdjmhaaBw
import Derived.Deep.RegionHeld3
import Derived.Deep.DeepCutAuto
namespace Go.Proofs.Ytbpinokbpdjmhaa
set_option linter.unusedSimpArgs false
set_option linter.unusedVariables false
open Go.RowKit

set_option maxHeartbeats 4000000 in
theorem rexCopy_c (r : Rex) : CopyOk r := by
  refine Rex.ind (p := CopyOk) (fun k s ks ih => ?_) r
  intro v1 v2 w lo h hsz
  obtain ⟨A, c, K, ck, _, rfl, rfl, hs, hk⟩ := h.parts
  dsimp only [Rex.kind, Rex.set, Rex.kids] at hs hk ⊢
  rw [Rex.size] at hsz
  clear h
  obtain ⟨wa, hwa⟩ : ∃ x, x = (w.alloc (.cells #[.int .i64 k, .slice A s.length c, .slice K ks.length ck] TRx)).alloc (.cells #[.int .i64 0, nilS, nilS] TRx) := ⟨_, rfl⟩
  have hb : Below w.heap.size w wa := by rw [hwa]; exact below_alloc (below_alloc (Below.refl _ _) _) _
  have m0 : Blk wa w.heap.size #[.int .i64 k, .slice A s.length c, .slice K ks.length ck] TRx := by rw [hwa]; exact (blk_new w _ _).alloc _
  have m1 : Blk wa (w.heap.size + 1) #[.int .i64 0, nilS, nilS] TRx := by
    rw [hwa]
    have := blk_new (w.alloc (.cells #[.int .i64 k, .slice A s.length c, .slice K ks.length ck] TRx)) #[.int .i64 0, nilS, nilS] TRx
    simpa using this
  have hz1 : w.heap.size + 1 < wa.heap.size := m1.lt
  replace hwa := hwa.symm
  obtain ⟨cs, hcs⟩ := (hk.below hb).krow
  have HB := Lib.hid hb
  have M0 := Lib.hid m0
  have M1 := Lib.hid m1
  have HS := Lib.hid (hs.below hb)
  have HC := Lib.hid hcs
  clear hb m0 m1 hs hk hcs
  have HM : Hid (∀ w', Below wa.heap.size wa w' → w'.cell? ⟨w.heap.size, 0, none⟩ = some (.int .i64 k) ∧ w'.cell? ⟨w.heap.size, 1, none⟩ = some (.slice A s.length c) ∧ w'.cell? ⟨w.heap.size, 2, none⟩ = some (.slice K ks.length ck)) := fun w' hb =>
    ⟨by rw [(M0.out.below hb).cell]; rfl, by rw [(M0.out.below hb).cell]; rfl, by rw [(M0.out.below hb).cell]; rfl⟩
  go_enter Try.func56, Try.ntmps56
  go_upto_region 1 with fail
  clear hwa
  go_cut [3] (fun s3 wx => CopyMidP wa k s ks.length cs s3 wx)
  case first =>
    go_region_held3 (fun w' => Below wa.heap.size wa w' ∧ w'.cell? ⟨w.heap.size, 0, none⟩ = some (.int .i64 k) ∧ w'.cell? ⟨w.heap.size, 1, none⟩ = some (.slice A s.length c) ∧ w'.cell? ⟨w.heap.size, 2, none⟩ = some (.slice K ks.length ck))
      ((refine (fun h => ⟨h, HM.out _ h⟩ : Below wa.heap.size wa _ → _) ?_; (repeat (first | exact BB.out | exact BA.out | exact Below.refl _ _ | exact below_drew (Below.refl _ _) | refine below_alloc ?_ _ | refine below_drew ?_ | refine below_set ?_ (by first | exact Nat.le_refl _ | exact BA.out.size | exact BB.out.size) _))))
      (first
        | (go_at_call 67; refine (copiedSpan_c A c s.length (spcs s) _ (HS.out.below (by first | exact below_drew (Below.refl _ _) | exact below_alloc (below_drew (Below.refl _ _)) _)).row (spcs_length _) (spcs_one _) (by omega)).mono ?_; rintro e wA ⟨vS, rfl, oS, bS⟩; obtain ⟨A1, c1, rfl, _, _⟩ := own_row oS; have BA : Hid (Below wa.heap.size wa wA) := below_then (by first | exact below_drew (Below.refl _ _) | exact below_alloc (below_drew (Below.refl _ _)) _) bS; have OS := Lib.hid oS; have BS := Lib.hid bS; (first | have ZA := Lib.hid ((show Blk (wa.drew.alloc (.cells #[.int .i64 0, nilS, nilS] TRx)) wa.heap.size #[.int .i64 0, nilS, nilS] TRx from blk_new wa.drew _ _).below bS) | skip); clear oS bS)
        | (go_at_call 68; refine (copiedRex_c K ck ks.length cs _ (HC.out.row.below (by first | exact BA.out | exact below_alloc BA.out _)) HC.out.len HC.out.one (by omega)).mono ?_; rintro e wB ⟨vK, rfl, oK, bK⟩; obtain ⟨K1, k1, rfl, _, _⟩ := own_row oK; have BB : Hid (Below wa.heap.size wa wB) := below_then (by first | exact BA.out | exact below_alloc BA.out _) bK; have OK := Lib.hid oK; have BK := Lib.hid bK; (first | have Z := ZA.out.below bK | have Z := (blk_new wA #[.int .i64 0, nilS, nilS] TRx).below bK | skip); (first | (have z0 := (Z.cell 0).trans rfl; have z1 := (Z.cell 1).trans rfl; have z2 := (Z.cell 2).trans rfl; have f0 := Z.free 0; have f1 := Z.free 1; have f2 := Z.free 2; have HZ := Lib.hid Z; clear Z) | skip); clear oK bK))
    all_goals
      go_wp2_with fail
      go_meet
      first | exact mid1 HS.out.len OS.out BS.out OK.out BK.out | exact mid2 HS.out.len OS.out BS.out OK.out BK.out | exact mid3 HS.out.len OS.out BS.out OK.out BK.out
  case rest =>
    obtain ⟨g, vS, vK, rfl, hm⟩ := hcut
    have hgl := hm.gl
    have HM1 := Lib.hid (M1.out.below hm.bel)
    have CM := Lib.hid hm
    obtain ⟨A1, c1, eS, _⟩ := hm.set.sps
    obtain ⟨K1, k1, eK, _, _⟩ := own_row hm.row
    subst eS eK
    have n2 : wc.cell? ⟨g, 2, none⟩ = some (.slice K1 ks.length k1) := by rw [hm.blk.cell]; rfl
    have hlen : ks.length ≤ 1073741824 := by omega
    clear hm M0 HM HS
    by_cases h0 : ks = []
    · subst h0
      have hrow := CM.out.row
      have ecs : cs = [] := by have := HC.out.len; simpa using this
      rw [ecs] at hrow
      have HOK : Hid (OwnK wc (vblk (.slice K1 ([] : List Rex).length k1)) [] (.slice K1 ([] : List Rex).length k1) []) := ⟨rfl, own_lower hrow (Nat.zero_le _), by simp, fun i r x h => by simp at h, by simp [fps], by unfold vblk; split <;> simp⟩
      have HFK : Hid (∀ b, b ∈ vblk (.slice K1 ([] : List Rex).length k1) → wa.heap.size ≤ b ∧ b ∉ vblk (.slice A1 s.length c1)) := fun b hb => ⟨(own_vlt hrow b hb).1, fun h => CM.out.dj b h hb⟩
      have HBG := Lib.hid CM.out.blk
      have HOS := Lib.hid CM.out.set
      have HBE := Lib.hid CM.out.bel
      clear hrow CM ecs
      simp only [List.length_nil] at n2 HBG HOK HFK ⊢
      go_wp2_with fail
      go_loopg [17] 0 (fun n i wr => n = 0 ∧ i = .int .i64 0 ∧ wr = wc)
      case atStart => exact ⟨rfl, rfl, rfl⟩
      case round =>
        obtain ⟨_, rfl, rfl⟩ := hrel
        go_wp2_with (first
          | (refine ev_load (o := ⟨some 31, _, _, _, _, _⟩) rfl TRx _ rfl g rfl [.int .i64 k, .slice A1 s.length c1, (.slice K1 0 k1)] TRx HBG.out _ Try.underlying31 rfl (sizeRx' _ _ _) ?_)
          | (refine ev_store (o := ⟨none, .store _ (.tmp 2) _, _, _, _, _⟩) rfl rfl TRx (.tmp 2) (.tmp 31) rfl (w.heap.size + 1) 0 rfl [.int .i64 k, .slice A1 s.length c1, (.slice K1 0 k1)] rfl _ TRx HM1.out (sizeRx' _ _ _) (by show 0 + 3 ≤ 3; omega) (three_one _ _ _ _ _ _ _) ?_; intro w5 hX5 hg5; have HX5 : Hid (Blk w5 (w.heap.size + 1) #[.int .i64 k, .slice A1 s.length c1, (.slice K1 0 k1)] TRx) := hX5; have HG5 := Lib.hid hg5; clear hX5 hg5))
        have hz : w.heap.size + 1 < wa.heap.size := hz1
        refine bodyPost_ret (results_cell_row rfl _ _ (w.heap.size + 1) TRx _ (0, 0) _ rfl HX5.out.eq Try.underlying31 rfl (by rw [sizeRx]; rfl)) rfl ?_
        exact copy_fin hz HB.out HOS.out HOK.out HBE.out HFK.out HG5.out
    · have hpos : 0 < ks.length := List.length_pos_iff.2 h0
      clear h0
      obtain ⟨gK, capK, eK2, hgK, _⟩ := own_form CM.out.row hpos
      injection eK2 with e1 e2 e3
      subst e1 e3
      obtain ⟨cur, hBK, hcsz, hcap, _, hcm, htk⟩ := own_blk CM.out.row
      have hgKc : gK < wc.heap.size := hBK.lt
      have hgc : g < wc.heap.size := CM.out.blk.lt
      have HX := Lib.hid (KPart.first (ks := ks) hBK hcsz hcap hcm hgK)
      have HT : Hid (∀ t, 0 * 3 ≤ t → t < ks.length * 3 → cur[t]? = cs[t]?) := fun t _ ht => by
        rw [← htk, List.getElem?_take, if_pos ht, Array.getElem?_toList]
      have HBG := Lib.hid CM.out.blk
      have HOS := Lib.hid CM.out.set
      have HBE := Lib.hid CM.out.bel
      have HVS : Hid (∀ b, b ∈ vblk (.slice A1 s.length c1) → b < wc.heap.size) := fun b hb => (CM.out.set.lt b hb).2
      have HDJ := Lib.hid CM.out.dj
      have HGK : Hid (gK ≠ g) := fun e => CM.out.gK (by rw [e]; simp [vblk_some])
      have HGV : Hid (gK ∉ vblk (.slice A1 s.length c1)) := fun h => CM.out.dj gK h (by simp [vblk_some])
      have HGS := Lib.hid CM.out.gS
      clear CM hBK hcsz hcap hcm htk
      go_wp2_with fail
      go_loopg [17] (ks.length) (fun n i wr => ∃ j : Nat, j + n = ks.length ∧ i = .int .i64 j ∧ ∃ (cur : Array Value) (L : List KInfo), Hid (KPart wr gK wa.heap.size k1 cur ks j L) ∧ Hid (∀ t, j * 3 ≤ t → t < ks.length * 3 → cur[t]? = cs[t]?) ∧
        Hid (Blk wr g #[.int .i64 k, .slice A1 s.length c1, .slice (some ⟨gK, 0, none⟩) ks.length k1] TRx) ∧ Hid (OwnSp wr wa.heap.size (.slice A1 s.length c1) s) ∧ Hid (Below wa.heap.size wa wr) ∧ Hid (Blk wr (w.heap.size + 1) #[.int .i64 0, nilS, nilS] TRx) ∧ Hid (∀ b, b ∈ fps L → wc.heap.size ≤ b) ∧ Hid (wc.heap.size ≤ wr.heap.size))
      case atStart => exact ⟨0, by omega, rfl, cur, [], HX, HT, HBG, HOS, HBE, HM1, fun b hb => by simp [fps] at hb, Nat.le_refl _⟩
      case round =>
        clear HX HT HBG HOS HBE HM1 n2
        obtain ⟨j, hj, rfl, cur, L, HX, HT, HBG, HOS, HBE, HM1, HFL, HWZ⟩ := hrel
        have n2 : wr.cell? ⟨g, 2, none⟩ = some (.slice (some ⟨gK, 0, none⟩) ks.length k1) := by rw [HBG.out.cell]; rfl
        by_cases hlt : j < ks.length
        · obtain ⟨r, hr⟩ : ∃ r, ks[j]? = some r := ⟨ks[j], List.getElem?_eq_getElem hlt⟩
          obtain ⟨x1, x2, g0, g1, g2, hv⟩ := HC.out.each j r hr
          obtain ⟨A2, c2, K2, d2, _, rfl, rfl, _⟩ := hv.parts
          have hmem := List.mem_of_getElem? hr
          have hks := size_kid hmem
          rw [← HT.out (j * 3) (Nat.le_refl _) (by omega)] at g0
          rw [← HT.out (j * 3 + 1) (by omega) (by omega)] at g1
          rw [← HT.out (j * 3 + 2) (by omega) (by omega)] at g2
          have HR := Lib.hid hr
          have HV := Lib.hid (hv.under HBE.out)
          have HME : Hid (∀ w', Below wr.heap.size wr w' → w'.cell? ⟨g, 2, none⟩ = some (.slice (some ⟨gK, 0, none⟩) ks.length k1) ∧ w'.cell? ⟨gK, j * 3, none⟩ = some (.int .i64 r.kind) ∧ w'.cell? ⟨gK, j * 3 + 1, none⟩ = some (.slice A2 r.set.length c2) ∧ w'.cell? ⟨gK, j * 3 + 2, none⟩ = some (.slice K2 r.kids.length d2)) := fun w' hb =>
            ⟨by rw [(HBG.out.below hb).cell]; rfl, by rw [(HX.out.blk.below hb).cell]; exact g0, by rw [(HX.out.blk.below hb).cell]; exact g1, by rw [(HX.out.blk.below hb).cell]; exact g2⟩
          have i0 : (0 : Int) ≤ (j : Int) := by omega
          have i1 : (j : Int) < (ks.length : Int) := by omega
          clear hr hv g0 g1 g2
          go_wp2
          have z0 := (HME.out _ (Below.refl _ _)).2.1
          have z1 := (HME.out _ (Below.refl _ _)).2.2.1
          have z2 := (HME.out _ (Below.refl _ _)).2.2.2
          go_region_with (first
              | (go_at_call 56; refine (ih r hmem _ _ _ _ (HV.out.under (below_drew (Below.refl _ _))) (by omega)).mono ?_; rintro e wD ⟨u1, u2, fp, rfl, ho, hnd, hf, b3⟩; rw [← Rex.eta r] at ho; obtain ⟨L3, fk3, _, _, hos3, hok3⟩ := ho.parts; obtain ⟨A3, c3, rfl, _⟩ := hos3.sps; obtain ⟨K3, d3, rfl, _, _⟩ := own_row hok3.hk; clear hos3 hok3; have BD : Hid (Below wr.heap.size wr wD) := below_then (below_drew (Below.refl _ _)) b3; have HO := Lib.hid ho; have HND := Lib.hid hnd; have HF : Hid (∀ b, b ∈ fp → wr.heap.size ≤ b) := hf; clear ho hnd hf b3; have y2 := (HME.out _ BD.out).1; have y0 := (HME.out _ BD.out).2.1; have y1 := (HME.out _ BD.out).2.2.1; have y3 := (HME.out _ BD.out).2.2.2; have f0 := (HX.out.blk.below BD.out).free (j * 3); have f1 := (HX.out.blk.below BD.out).free (j * 3 + 1); have f2 := (HX.out.blk.below BD.out).free (j * 3 + 2)))
          all_goals
            clear y0 y1 y2 y3 f0 f1 f2 z0 z1 z2 n2 i0 i1
            go_wp2
            go_roundg (gk - 1)
            case rel =>
              have hs0 : wa.heap.size ≤ wr.heap.size := HBE.out.size
              obtain ⟨cur', hX', hT'⟩ := copy_round (n := 0) HX.out HR.out BD.out HO.out HF.out HND.out hs0 HT.out
              have hne : g ≠ gK := fun e => HGK.out e.symm
              refine ⟨j + 1, by omega, by go_num, cur', _, hX', hT', (((HBG.out.below BD.out).far hne _).far hne _).far hne _, (HOS.out.below BD.out).stay fun b hb => ?_, below_set (below_set (below_set (below_then HBE.out BD.out) hgK _) hgK _) hgK _, (((HM1.out.below BD.out).far (by show w.heap.size + 1 ≠ gK; omega) _).far (by show w.heap.size + 1 ≠ gK; omega) _).far (by show w.heap.size + 1 ≠ gK; omega) _, fun b hb => ?_, by show _ ≤ _; simp only [World.size_setCell]; exact Nat.le_trans HWZ.out BD.out.size⟩
              · have hb' : b ≠ gK := fun e => HGV.out (e ▸ hb)
                exact (Below.heap_setCell _ _ _ _ hb').trans ((Below.heap_setCell _ _ _ _ hb').trans (Below.heap_setCell _ _ _ _ hb'))
              · rw [fps_append] at hb
                rcases List.mem_append.1 hb with hb | hb
                · exact HFL.out b hb
                · exact Nat.le_trans HWZ.out (HF.out b (by simpa [fps] using hb))
            case measure => omega
        · have hj' : j = ks.length := by omega
          have HOK := Lib.hid (HX.out.done hj')
          have HFK : Hid (∀ b, b ∈ gK :: fps L → wa.heap.size ≤ b ∧ b ∉ vblk (.slice A1 s.length c1)) := fun b hb => by
            refine ⟨HX.out.lo b hb, fun h => ?_⟩
            rcases List.mem_cons.1 hb with e | hb
            · exact HGV.out (e ▸ h)
            · have h1 := HFL.out b hb
              have h2 := HVS.out b h
              omega
          clear hj' HT HX n2
          go_wp2_with (first
            | (refine ev_load (o := ⟨some 31, _, _, _, _, _⟩) rfl TRx _ rfl g rfl [.int .i64 k, .slice A1 s.length c1, (.slice (some ⟨gK, 0, none⟩) ks.length k1)] TRx HBG.out _ Try.underlying31 rfl (sizeRx' _ _ _) ?_)
            | (refine ev_store (o := ⟨none, .store _ (.tmp 2) _, _, _, _, _⟩) rfl rfl TRx (.tmp 2) (.tmp 31) rfl (w.heap.size + 1) 0 rfl [.int .i64 k, .slice A1 s.length c1, (.slice (some ⟨gK, 0, none⟩) ks.length k1)] rfl _ TRx HM1.out (sizeRx' _ _ _) (by show 0 + 3 ≤ 3; omega) (three_one _ _ _ _ _ _ _) ?_; intro w5 hX5 hg5; have HX5 : Hid (Blk w5 (w.heap.size + 1) #[.int .i64 k, .slice A1 s.length c1, (.slice (some ⟨gK, 0, none⟩) ks.length k1)] TRx) := hX5; have HG5 := Lib.hid hg5; clear hX5 hg5))
          have hz : w.heap.size + 1 < wa.heap.size := hz1
          refine bodyPost_ret (results_cell_row rfl _ _ (w.heap.size + 1) TRx _ (0, 0) _ rfl HX5.out.eq Try.underlying31 rfl (by rw [sizeRx]; rfl)) rfl ?_
          exact copy_fin hz HB.out HOS.out HOK.out HBE.out HFK.out HG5.out

end Go.Proofs.Ytbpinokbpdjmhaa
