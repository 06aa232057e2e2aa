/- Texts joined for the claims: C1 Ru M1. -/
import Derived.Test.YtlchipjckgaclaaDoorG8
import Derived.Test.YtlchipjckgaclaaDoorG1
import Derived.Deep.RegionHeld3
import Derived.Deep.DeepCutAuto
import Derived.Test.YtlchipjckgaclaaDoorG11
import Derived.Test.YtlchipjckgaclaaDoorG6
/- rexCopy: a tree in new memory. -/
namespace Go.Proofs.YtlchipjckgaclaaDoor
set_option linter.unusedSimpArgs false
set_option linter.unusedVariables false
set_option maxRecDepth 100000
open Go.RowKit

set_option maxHeartbeats 4000000 in
theorem rexCopy_c (r : Rex) : CopyOk r := by
  refine Rex.ind (p := CopyOk) (fun k s ks ih => ?_) r
  intro v1 v2 w lo h hsz
  obtain ⟨A, c, K, ck, _, rfl, rfl, hs, hk⟩ := h.parts
  dsimp only [Rex.kind, Rex.set, Rex.kids] at hs hk ⊢
  rw [Rex.size] at hsz
  clear h
  obtain ⟨wa, hwa⟩ : ∃ x, x = (w.alloc (.cells #[.int .i64 k, .slice A s.length c, .slice K ks.length ck] TRx)).alloc (.cells #[.int .i64 0, nilS, nilS] TRx) := ⟨_, rfl⟩
  have hb : Below w.heap.size w wa := by rw [hwa]; exact below_alloc (below_alloc (Below.refl _ _) _) _
  have m0 : Blk wa w.heap.size #[.int .i64 k, .slice A s.length c, .slice K ks.length ck] TRx := by rw [hwa]; exact (blk_new w _ _).alloc _
  have m1 : Blk wa (w.heap.size + 1) #[.int .i64 0, nilS, nilS] TRx := by
    rw [hwa]
    have := blk_new (w.alloc (.cells #[.int .i64 k, .slice A s.length c, .slice K ks.length ck] TRx)) #[.int .i64 0, nilS, nilS] TRx
    simpa using this
  have hz1 : w.heap.size + 1 < wa.heap.size := m1.lt
  replace hwa := hwa.symm
  obtain ⟨cs, hcs⟩ := (hk.below hb).krow
  have HB := Lib.hid hb
  have M0 := Lib.hid m0
  have M1 := Lib.hid m1
  have HS := Lib.hid (hs.below hb)
  have HC := Lib.hid hcs
  clear hb m0 m1 hs hk hcs
  have HM : Hid (∀ w', Below wa.heap.size wa w' → w'.cell? ⟨w.heap.size, 0, none⟩ = some (.int .i64 k) ∧ w'.cell? ⟨w.heap.size, 1, none⟩ = some (.slice A s.length c) ∧ w'.cell? ⟨w.heap.size, 2, none⟩ = some (.slice K ks.length ck)) := fun w' hb =>
    ⟨by rw [(M0.out.below hb).cell]; rfl, by rw [(M0.out.below hb).cell]; rfl, by rw [(M0.out.below hb).cell]; rfl⟩
  go_enter Tryd.func74, Tryd.ntmps74
  go_upto_region 1 with fail
  clear hwa
  go_cut [3] (fun s3 wx => CopyMidP wa k s ks.length cs s3 wx)
  case first =>
    go_region_held3 (fun w' => Below wa.heap.size wa w' ∧ w'.cell? ⟨w.heap.size, 0, none⟩ = some (.int .i64 k) ∧ w'.cell? ⟨w.heap.size, 1, none⟩ = some (.slice A s.length c) ∧ w'.cell? ⟨w.heap.size, 2, none⟩ = some (.slice K ks.length ck))
      ((refine (fun h => ⟨h, HM.out _ h⟩ : Below wa.heap.size wa _ → _) ?_; (repeat (first | exact BB.out | exact BA.out | exact Below.refl _ _ | exact below_drew (Below.refl _ _) | refine below_alloc ?_ _ | refine below_drew ?_ | refine below_set ?_ (by first | exact Nat.le_refl _ | exact BA.out.size | exact BB.out.size) _))))
      (first
        | (go_at_call 66; refine (copiedSpan_c A c s.length (spcs s) _ (HS.out.below (by first | exact below_drew (Below.refl _ _) | exact below_alloc (below_drew (Below.refl _ _)) _)).row (spcs_length _) (spcs_one _) (by omega)).mono ?_; rintro e wA ⟨vS, rfl, oS, bS⟩; obtain ⟨A1, c1, rfl, _, _⟩ := own_row oS; have BA : Hid (Below wa.heap.size wa wA) := below_then (by first | exact below_drew (Below.refl _ _) | exact below_alloc (below_drew (Below.refl _ _)) _) bS; have OS := Lib.hid oS; have BS := Lib.hid bS; (first | have ZA := Lib.hid ((show Blk (wa.drew.alloc (.cells #[.int .i64 0, nilS, nilS] TRx)) wa.heap.size #[.int .i64 0, nilS, nilS] TRx from blk_new wa.drew _ _).below bS) | skip); clear oS bS)
        | (go_at_call 92; refine (copiedRex_c K ck ks.length cs _ (HC.out.row.below (by first | exact BA.out | exact below_alloc BA.out _)) HC.out.len HC.out.one (by omega)).mono ?_; rintro e wB ⟨vK, rfl, oK, bK⟩; obtain ⟨K1, k1, rfl, _, _⟩ := own_row oK; have BB : Hid (Below wa.heap.size wa wB) := below_then (by first | exact BA.out | exact below_alloc BA.out _) bK; have OK := Lib.hid oK; have BK := Lib.hid bK; (first | have Z := ZA.out.below bK | have Z := (blk_new wA #[.int .i64 0, nilS, nilS] TRx).below bK | skip); (first | (have z0 := (Z.cell 0).trans rfl; have z1 := (Z.cell 1).trans rfl; have z2 := (Z.cell 2).trans rfl; have f0 := Z.free 0; have f1 := Z.free 1; have f2 := Z.free 2; have HZ := Lib.hid Z; clear Z) | skip); clear oK bK))
    all_goals
      go_wp2_with fail
      go_meet
      first | exact mid1 HS.out.len OS.out BS.out OK.out BK.out | exact mid2 HS.out.len OS.out BS.out OK.out BK.out | exact mid3 HS.out.len OS.out BS.out OK.out BK.out
  case rest =>
    obtain ⟨g, vS, vK, rfl, hm⟩ := hcut
    have hgl := hm.gl
    have HM1 := Lib.hid (M1.out.below hm.bel)
    have CM := Lib.hid hm
    obtain ⟨A1, c1, eS, _⟩ := hm.set.sps
    obtain ⟨K1, k1, eK, _, _⟩ := own_row hm.row
    subst eS eK
    have n2 : wc.cell? ⟨g, 2, none⟩ = some (.slice K1 ks.length k1) := by rw [hm.blk.cell]; rfl
    have hlen : ks.length ≤ 1073741824 := by omega
    clear hm M0 HM HS
    by_cases h0 : ks = []
    · subst h0
      have hrow := CM.out.row
      have ecs : cs = [] := by have := HC.out.len; simpa using this
      rw [ecs] at hrow
      have HOK : Hid (OwnK wc (vblk (.slice K1 ([] : List Rex).length k1)) [] (.slice K1 ([] : List Rex).length k1) []) := ⟨rfl, own_lower hrow (Nat.zero_le _), by simp, fun i r x h => by simp at h, by simp [fps], by unfold vblk; split <;> simp⟩
      have HFK : Hid (∀ b, b ∈ vblk (.slice K1 ([] : List Rex).length k1) → wa.heap.size ≤ b ∧ b ∉ vblk (.slice A1 s.length c1)) := fun b hb => ⟨(own_vlt hrow b hb).1, fun h => CM.out.dj b h hb⟩
      have HBG := Lib.hid CM.out.blk
      have HOS := Lib.hid CM.out.set
      have HBE := Lib.hid CM.out.bel
      clear hrow CM ecs
      simp only [List.length_nil] at n2 HBG HOK HFK ⊢
      go_wp2_with fail
      go_loopg [17] 0 (fun n i wr => n = 0 ∧ i = .int .i64 0 ∧ wr = wc)
      case atStart => exact ⟨rfl, rfl, rfl⟩
      case round =>
        obtain ⟨_, rfl, rfl⟩ := hrel
        go_wp2_with (first
          | ((with_reducible refine at_ld 31 ?_); refine ev_load (o := ⟨some 31, _, _, _, _, _⟩) rfl TRx _ rfl g rfl [.int .i64 k, .slice A1 s.length c1, (.slice K1 0 k1)] TRx HBG.out _ Tryd.underlying36 rfl (sizeRx' _ _ _) ?_)
          | ((with_reducible refine at_st 2 31 ?_); refine ev_store (o := ⟨none, .store _ (.tmp 2) _, _, _, _, _⟩) rfl rfl TRx (.tmp 2) (.tmp 31) rfl (w.heap.size + 1) 0 rfl [.int .i64 k, .slice A1 s.length c1, (.slice K1 0 k1)] rfl _ TRx HM1.out (sizeRx' _ _ _) (by show 0 + 3 ≤ 3; omega) (three_one _ _ _ _ _ _ _) ?_; intro w5 hX5 hg5; have HX5 : Hid (Blk w5 (w.heap.size + 1) #[.int .i64 k, .slice A1 s.length c1, (.slice K1 0 k1)] TRx) := hX5; have HG5 := Lib.hid hg5; clear hX5 hg5))
        have hz : w.heap.size + 1 < wa.heap.size := hz1
        refine bodyPost_ret (results_cell_row rfl _ _ (w.heap.size + 1) TRx _ (0, 0) _ rfl HX5.out.eq Tryd.underlying36 rfl (by rw [sizeRx]; rfl)) rfl ?_
        exact copy_fin hz HB.out HOS.out HOK.out HBE.out HFK.out HG5.out
    · have hpos : 0 < ks.length := List.length_pos_iff.2 h0
      clear h0
      obtain ⟨gK, capK, eK2, hgK, _⟩ := own_form CM.out.row hpos
      injection eK2 with e1 e2 e3
      subst e1 e3
      obtain ⟨cur, hBK, hcsz, hcap, _, hcm, htk⟩ := own_blk CM.out.row
      have hgKc : gK < wc.heap.size := hBK.lt
      have hgc : g < wc.heap.size := CM.out.blk.lt
      have HX := Lib.hid (KPart.first (ks := ks) hBK hcsz hcap hcm hgK)
      have HT : Hid (∀ t, 0 * 3 ≤ t → t < ks.length * 3 → cur[t]? = cs[t]?) := fun t _ ht => by
        rw [← htk, List.getElem?_take, if_pos ht, Array.getElem?_toList]
      have HBG := Lib.hid CM.out.blk
      have HOS := Lib.hid CM.out.set
      have HBE := Lib.hid CM.out.bel
      have HVS : Hid (∀ b, b ∈ vblk (.slice A1 s.length c1) → b < wc.heap.size) := fun b hb => (CM.out.set.lt b hb).2
      have HDJ := Lib.hid CM.out.dj
      have HGK : Hid (gK ≠ g) := fun e => CM.out.gK (by rw [e]; simp [vblk_some])
      have HGV : Hid (gK ∉ vblk (.slice A1 s.length c1)) := fun h => CM.out.dj gK h (by simp [vblk_some])
      have HGS := Lib.hid CM.out.gS
      clear CM hBK hcsz hcap hcm htk
      go_wp2_with fail
      go_loopg [17] (ks.length) (fun n i wr => ∃ j : Nat, j + n = ks.length ∧ i = .int .i64 j ∧ ∃ (cur : Array Value) (L : List KInfo), Hid (KPart wr gK wa.heap.size k1 cur ks j L) ∧ Hid (∀ t, j * 3 ≤ t → t < ks.length * 3 → cur[t]? = cs[t]?) ∧
        Hid (Blk wr g #[.int .i64 k, .slice A1 s.length c1, .slice (some ⟨gK, 0, none⟩) ks.length k1] TRx) ∧ Hid (OwnSp wr wa.heap.size (.slice A1 s.length c1) s) ∧ Hid (Below wa.heap.size wa wr) ∧ Hid (Blk wr (w.heap.size + 1) #[.int .i64 0, nilS, nilS] TRx) ∧ Hid (∀ b, b ∈ fps L → wc.heap.size ≤ b) ∧ Hid (wc.heap.size ≤ wr.heap.size))
      case atStart => exact ⟨0, by omega, rfl, cur, [], HX, HT, HBG, HOS, HBE, HM1, fun b hb => by simp [fps] at hb, Nat.le_refl _⟩
      case round =>
        clear HX HT HBG HOS HBE HM1 n2
        obtain ⟨j, hj, rfl, cur, L, HX, HT, HBG, HOS, HBE, HM1, HFL, HWZ⟩ := hrel
        have n2 : wr.cell? ⟨g, 2, none⟩ = some (.slice (some ⟨gK, 0, none⟩) ks.length k1) := by rw [HBG.out.cell]; rfl
        by_cases hlt : j < ks.length
        · obtain ⟨r, hr⟩ : ∃ r, ks[j]? = some r := ⟨ks[j], List.getElem?_eq_getElem hlt⟩
          obtain ⟨x1, x2, g0, g1, g2, hv⟩ := HC.out.each j r hr
          obtain ⟨A2, c2, K2, d2, _, rfl, rfl, _⟩ := hv.parts
          have hmem := List.mem_of_getElem? hr
          have hks := size_kid hmem
          rw [← HT.out (j * 3) (Nat.le_refl _) (by omega)] at g0
          rw [← HT.out (j * 3 + 1) (by omega) (by omega)] at g1
          rw [← HT.out (j * 3 + 2) (by omega) (by omega)] at g2
          have HR := Lib.hid hr
          have HV := Lib.hid (hv.under HBE.out)
          have HME : Hid (∀ w', Below wr.heap.size wr w' → w'.cell? ⟨g, 2, none⟩ = some (.slice (some ⟨gK, 0, none⟩) ks.length k1) ∧ w'.cell? ⟨gK, j * 3, none⟩ = some (.int .i64 r.kind) ∧ w'.cell? ⟨gK, j * 3 + 1, none⟩ = some (.slice A2 r.set.length c2) ∧ w'.cell? ⟨gK, j * 3 + 2, none⟩ = some (.slice K2 r.kids.length d2)) := fun w' hb =>
            ⟨by rw [(HBG.out.below hb).cell]; rfl, by rw [(HX.out.blk.below hb).cell]; exact g0, by rw [(HX.out.blk.below hb).cell]; exact g1, by rw [(HX.out.blk.below hb).cell]; exact g2⟩
          have i0 : (0 : Int) ≤ (j : Int) := by omega
          have i1 : (j : Int) < (ks.length : Int) := by omega
          clear hr hv g0 g1 g2
          go_wp2
          have z0 := (HME.out _ (Below.refl _ _)).2.1
          have z1 := (HME.out _ (Below.refl _ _)).2.2.1
          have z2 := (HME.out _ (Below.refl _ _)).2.2.2
          go_region_with (first
              | (go_at_call 74; refine (ih r hmem _ _ _ _ (HV.out.under (below_drew (Below.refl _ _))) (by omega)).mono ?_; rintro e wD ⟨u1, u2, fp, rfl, ho, hnd, hf, b3⟩; rw [← Rex.eta r] at ho; obtain ⟨L3, fk3, _, _, hos3, hok3⟩ := ho.parts; obtain ⟨A3, c3, rfl, _⟩ := hos3.sps; obtain ⟨K3, d3, rfl, _, _⟩ := own_row hok3.hk; clear hos3 hok3; have BD : Hid (Below wr.heap.size wr wD) := below_then (below_drew (Below.refl _ _)) b3; have HO := Lib.hid ho; have HND := Lib.hid hnd; have HF : Hid (∀ b, b ∈ fp → wr.heap.size ≤ b) := hf; clear ho hnd hf b3; have y2 := (HME.out _ BD.out).1; have y0 := (HME.out _ BD.out).2.1; have y1 := (HME.out _ BD.out).2.2.1; have y3 := (HME.out _ BD.out).2.2.2; have f0 := (HX.out.blk.below BD.out).free (j * 3); have f1 := (HX.out.blk.below BD.out).free (j * 3 + 1); have f2 := (HX.out.blk.below BD.out).free (j * 3 + 2)))
          all_goals
            clear y0 y1 y2 y3 f0 f1 f2 z0 z1 z2 n2 i0 i1
            go_wp2
            go_roundg (gk - 1)
            case rel =>
              have hs0 : wa.heap.size ≤ wr.heap.size := HBE.out.size
              obtain ⟨cur', hX', hT'⟩ := copy_round (n := 0) HX.out HR.out BD.out HO.out HF.out HND.out hs0 HT.out
              have hne : g ≠ gK := fun e => HGK.out e.symm
              refine ⟨j + 1, by omega, by go_num, cur', _, hX', hT', (((HBG.out.below BD.out).far hne _).far hne _).far hne _, (HOS.out.below BD.out).stay fun b hb => ?_, below_set (below_set (below_set (below_then HBE.out BD.out) hgK _) hgK _) hgK _, (((HM1.out.below BD.out).far (by show w.heap.size + 1 ≠ gK; omega) _).far (by show w.heap.size + 1 ≠ gK; omega) _).far (by show w.heap.size + 1 ≠ gK; omega) _, fun b hb => ?_, by show _ ≤ _; simp only [World.size_setCell]; exact Nat.le_trans HWZ.out BD.out.size⟩
              · have hb' : b ≠ gK := fun e => HGV.out (e ▸ hb)
                exact (Below.heap_setCell _ _ _ _ hb').trans ((Below.heap_setCell _ _ _ _ hb').trans (Below.heap_setCell _ _ _ _ hb'))
              · rw [fps_append] at hb
                rcases List.mem_append.1 hb with hb | hb
                · exact HFL.out b hb
                · exact Nat.le_trans HWZ.out (HF.out b (by simpa [fps] using hb))
            case measure => omega
        · have hj' : j = ks.length := by omega
          have HOK := Lib.hid (HX.out.done hj')
          have HFK : Hid (∀ b, b ∈ gK :: fps L → wa.heap.size ≤ b ∧ b ∉ vblk (.slice A1 s.length c1)) := fun b hb => by
            refine ⟨HX.out.lo b hb, fun h => ?_⟩
            rcases List.mem_cons.1 hb with e | hb
            · exact HGV.out (e ▸ h)
            · have h1 := HFL.out b hb
              have h2 := HVS.out b h
              omega
          clear hj' HT HX n2
          go_wp2_with (first
            | ((with_reducible refine at_ld 31 ?_); refine ev_load (o := ⟨some 31, _, _, _, _, _⟩) rfl TRx _ rfl g rfl [.int .i64 k, .slice A1 s.length c1, (.slice (some ⟨gK, 0, none⟩) ks.length k1)] TRx HBG.out _ Tryd.underlying36 rfl (sizeRx' _ _ _) ?_)
            | ((with_reducible refine at_st 2 31 ?_); refine ev_store (o := ⟨none, .store _ (.tmp 2) _, _, _, _, _⟩) rfl rfl TRx (.tmp 2) (.tmp 31) rfl (w.heap.size + 1) 0 rfl [.int .i64 k, .slice A1 s.length c1, (.slice (some ⟨gK, 0, none⟩) ks.length k1)] rfl _ TRx HM1.out (sizeRx' _ _ _) (by show 0 + 3 ≤ 3; omega) (three_one _ _ _ _ _ _ _) ?_; intro w5 hX5 hg5; have HX5 : Hid (Blk w5 (w.heap.size + 1) #[.int .i64 k, .slice A1 s.length c1, (.slice (some ⟨gK, 0, none⟩) ks.length k1)] TRx) := hX5; have HG5 := Lib.hid hg5; clear hX5 hg5))
          have hz : w.heap.size + 1 < wa.heap.size := hz1
          refine bodyPost_ret (results_cell_row rfl _ _ (w.heap.size + 1) TRx _ (0, 0) _ rfl HX5.out.eq Tryd.underlying36 rfl (by rw [sizeRx]; rfl)) rfl ?_
          exact copy_fin hz HB.out HOS.out HOK.out HBE.out HFK.out HG5.out

end Go.Proofs.YtlchipjckgaclaaDoor

/- RexRead, of the reference and of the program, walked. -/
namespace Go.Proofs.YtlchipjckgaclaaDoor
set_option linter.unusedSimpArgs false
set_option linter.unusedVariables false
set_option maxRecDepth 100000
open Go.RowKit

def noR : Rex := .mk 0 [] []
def RexReadPost (o : Option Rex) (w : World) (e : Ending) (w' : World) : Prop :=
  ∃ A c K ck fp, e = .returned (.tuple #[.agg #[.int .i64 (o.getD noR).kind, .slice A (o.getD noR).set.length c, .slice K (o.getD noR).kids.length ck], .bool o.isSome]) ∧ OwnT w' fp (o.getD noR) (.slice A (o.getD noR).set.length c) (.slice K (o.getD noR).kids.length ck) ∧ fp.Nodup ∧ (∀ b, b ∈ fp → w.heap.size ≤ b) ∧ Below w.heap.size w w'
theorem OwnT.no (w : World) : OwnT w [] noR nilS nilS := OwnT.of (fk := []) (k := 0) (OwnSp.nil w 0) OwnK.empty (by simp [vblk_nil])
theorem rr_none {o : Option Rex} {w w' : World} (ho : o = none) (hb : Below w.heap.size w w') : RexReadPost o w (.returned (.tuple #[.agg #[.int .i64 0, nilS, nilS], .bool false])) w' := by
  subst ho
  exact ⟨none, 0, none, 0, [], rfl, OwnT.no w', List.nodup_nil, fun b hb => (by cases hb), hb⟩
theorem rr_some {n : Nat} {o : Option Rex} {w wr w5 : World} {r : Rex} {fp : List Nat} {A K : Option Addr} {n1 n2 c ck : Nat} (ho : o = some r) (e1 : n1 = r.set.length) (e2 : n2 = r.kids.length)
    (HO : OwnT wr fp r (.slice A n1 c) (.slice K n2 ck)) (HF : ∀ b, b ∈ fp → n ≤ b) (hn : w.heap.size < n) (HB : Below w.heap.size w wr) (HG : wr.grownBy w5 (some w.heap.size)) :
    RexReadPost o w (.returned (.tuple #[.agg #[.int .i64 r.kind, .slice A n1 c, .slice K n2 ck], .bool true])) w5 := by
  subst ho e1 e2
  obtain ⟨_, _, _, hnd, _⟩ := HO.parts
  refine ⟨A, c, K, ck, fp, rfl, ?_, hnd, fun b hb => by have := HF b hb; omega, HB.grown HG HB.size fun q hq => by injection hq with hq; omega⟩
  exact HO.stay fun b hb => HG.block b (HO.lt b hb) fun e => by injection e with e; have := HF b hb; omega
theorem str_at {w : World} {base : Nat} {A : Option Addr} {n d : Nat} {W : List (List UInt8)} (h : w.ownsRow base TStr 1 (.slice A n d) n (strsV W)) (hn : n = W.length) (hp : 0 < n) : ∃ g, A = some ⟨g, 0, none⟩ ∧ StrAt w g 0 W := by
  have h' := h
  rcases h'.2 with ⟨e1, _⟩ | ⟨g, cap, cur, e1, _, _, hnc, _⟩
  · injection e1 with e1 e2 e3
    omega
  · injection e1 with e1 e2 e3
    subst e1
    refine ⟨g, rfl, ⟨fun i x hx => ?_⟩⟩
    have hi := (List.getElem?_eq_some_iff.1 hx).1
    rw [Nat.zero_add, h.cellAt i (by omega)]
    unfold strsV
    rw [List.getElem?_map, hx]
    rfl
theorem sCut32_c (t : ByteArray) (w : World) (hs : t.size ≤ 1048576) :
    Calls Tryd.prog 60 #[.string t, .int .u8 32] w fun e w' => ∃ A d, e = .returned (.slice A (cutAt 32 t.data.toList).length d) ∧ w'.ownsRow w.heap.size TStr 1 (.slice A (cutAt 32 t.data.toList).length d) (cutAt 32 t.data.toList).length (strsV (cutAt 32 t.data.toList)) ∧ Below w.heap.size w w' := sCut_c t 32 w hs
theorem iSplit32_c (t : ByteArray) (w : World) (hs : t.size ≤ 1048576) (hm : MaxL w) :
    Calls Tryd.prog 63 #[.string t, .string ⟨#[32]⟩] w fun e w' => ∃ g, e = .returned (.slice (some ⟨g, 0, none⟩) (cutAt 32 t.data.toList).length (cutAt 32 t.data.toList).length) ∧ w'.ownsRow w.heap.size TStr 1 (.slice (some ⟨g, 0, none⟩) (cutAt 32 t.data.toList).length (cutAt 32 t.data.toList).length) (cutAt 32 t.data.toList).length (strsV (cutAt 32 t.data.toList)) ∧ Below w.heap.size w w' :=
  hm.elim fun m hm => iSplit_c t 32 m w hs hm
theorem sParse8_c (g D : Nat) (W : List (List UInt8)) (w : World) (hS : StrAt w g 0 W) (hW : W.length ≤ 4001) (hx : ∀ x ∈ W, x.length ≤ 4000) :
    Calls Tryd.prog 72 #[.slice (some ⟨g, 0, none⟩) W.length D, .int .i64 0, .int .i64 8] w fun e w' => ParsePost w.heap.size (readW 8 W) W e w' ∧ Below w.heap.size w w' := sParse_c 8 (by omega) g D 0 W w hS (Nat.zero_le _) hW hx
theorem iRead8_c (g : Nat) (W : List (List UInt8)) (w : World) (hS : StrAt w g 0 W) (hW : W.length ≤ 4001) (hx : ∀ x ∈ W, x.length ≤ 4000) (hp : Pow10 w) (hm : MaxL w) :
    Calls Tryd.prog 73 #[.slice (some ⟨g, 0, none⟩) W.length W.length, .int .i64 8] w fun e w' => ReadRPost w.heap.size g (readW 8 W) e w' ∧ Below w.heap.size w w' := iRead_c 8 (by omega) g 0 W w hS hW hx hp hm
theorem read_size {W rest : List (List UInt8)} {r : Rex} (h : readW 8 W = some (r, rest)) (hW : W.length ≤ 4001) : r.size ≤ 1048576 := by
  obtain ⟨h1, h2⟩ := readW_sound 8 _ _ _ h
  have h3 := words_size r 8 h2
  have h4 := congrArg List.length h1
  rw [List.length_append] at h4
  omega

set_option maxHeartbeats 4000000 in
theorem sRexRead_c (t : ByteArray) (w : World) (hs : t.size ≤ 1048576) :
    Calls Tryd.prog 37 #[.string t] w (RexReadPost (readRex t.data.toList) w) := by
  have HL := Lib.hid (bytes_len t)
  obtain ⟨ro, hro⟩ : ∃ o, o = readRex t.data.toList := ⟨_, rfl⟩
  rw [← hro]
  have HRO := Lib.hid hro
  clear hro
  obtain ⟨wa, hwa⟩ : ∃ y, y = w.alloc zRx := ⟨_, rfl⟩
  have HB : Hid (Below w.heap.size w wa) := by rw [hwa]; exact below_alloc (Below.refl _ _) _
  have M0 : Hid (Blk wa w.heap.size #[.int .i64 0, nilS, nilS] TRx) := by rw [hwa]; exact blk_new w _ _
  have HZ : Hid (w.heap.size + 1 ≤ wa.heap.size) := by rw [hwa]; show _ ≤ _; simp
  replace hwa := hwa.symm
  go_enter Tryd.func37, Tryd.ntmps37
  by_cases hlong : 4000 < t.size
  · have d1 : (4000 : Int) < (t.size : Int) := by omega
    have E : Hid (ro = none) := by show _ = _; rw [HRO.out]; exact readRex_long (by rw [HL.out]; exact hlong)
    clear hlong
    go_wp2_with ((with_reducible refine at_st 2 10 ?_); refine ev_store (o := ⟨none, .store _ (.tmp 2) _, _, _, _, _⟩) rfl rfl TRx (.tmp 2) (.tmp 10) rfl (w.heap.size) 0 rfl [.int .i64 0, nilS, nilS] rfl _ TRx M0.out (sizeRx' _ _ _) (by show 0 + 3 ≤ 3; omega) (three_one _ _ _ _ _ _ _) ?_; intro w5 hX5 hg5; have HX5 : Hid (Blk w5 (w.heap.size) ([.int .i64 0, nilS, nilS]).toArray TRx) := hX5; have HG5 := Lib.hid hg5; clear hX5 hg5)
    refine bodyPost_ret (results_row_tmp' Tryd.results37 _ _ w.heap.size TRx _ (0, 0) _ rfl (HX5.out).eq Tryd.underlying36 rfl (by rw [sizeRx]; rfl) (.bool false) rfl) rfl ?_
    exact rr_none (E.out) (HB.out.grown HG5.out HB.out.size (fun q hq => by injection hq with hq; omega))
  have d1 : ¬ (4000 : Int) < (t.size : Int) := by omega
  have HNL : Hid (¬ 4000 < t.data.toList.length) := by show ¬ _; rw [HL.out]; exact hlong
  go_wp2_with fail
  clear hwa
  refine (sCut32_c t wa hs).mono ?_
  rintro e w1 ⟨A1, c1, rfl, hown, b1⟩
  obtain ⟨W, hW⟩ : ∃ W, W = cutAt 32 t.data.toList := ⟨_, rfl⟩
  have hWp : 0 < W.length := by rw [hW]; exact List.length_pos_iff.2 (cutAt_pos _ _)
  have hWl : W.length ≤ 4001 := by have := cutAt_len 32 t.data.toList; rw [hW]; rw [HL.out] at this; omega
  have HWM : Hid (∀ v ∈ W, v.length ≤ 4000) := fun v hv => by
    have := cutAt_mem 32 t.data.toList v (by rw [← hW]; exact hv)
    have := HNL.out
    omega
  rw [← hW] at hown ⊢
  have HWW := Lib.hid hW
  clear hW
  obtain ⟨g, rfl, hst⟩ := str_at hown rfl hWp
  have HST := Lib.hid hst
  replace M0 := Lib.hid (M0.out.below b1)
  replace HB := Lib.hid (below_then HB.out b1)
  replace HZ := Lib.hid (Nat.le_trans HZ.out b1.size)
  clear hst hown b1 d1 hlong
  go_wp2_with fail
  refine (sParse8_c g c1 W w1 HST.out hWl HWM.out).mono ?_
  rintro e w2 ⟨hp, b2⟩
  replace M0 := Lib.hid (M0.out.below b2)
  replace HB := Lib.hid (below_then HB.out b2)
  have HZ2 := Lib.hid (Nat.le_trans HZ.out b2.size)
  have HZZ := HZ.out
  clear b2
  cases hr : readW 8 W with
  | none =>
    rw [hr] at hp
    obtain ⟨k9, A9, m9, c9, K9, q9, ck9, rfl⟩ := hp
    have E : Hid (ro = none) := by show _ = _; rw [HRO.out]; exact readRex_none HNL.out (by rw [← HWW.out]; exact hr)
    clear hr
    obtain ⟨wD, hwD⟩ : ∃ y, y = w2.alloc (.cells #[.int .i64 k9, .slice A9 m9 c9, .slice K9 q9 ck9] TRx) := ⟨_, rfl⟩
    have bD : Below w2.heap.size w2 wD := by rw [hwD]; exact below_alloc (Below.refl _ _) _
    have M0D := Lib.hid (M0.out.below bD)
    have HBD := Lib.hid (below_then HB.out bD)
    have HWD := Lib.hid hwD
    have e0 : ((-1 : Int) == (W.length : Int)) = false := by rw [beq_eq_false_iff_ne]; omega
    clear bD hwD
    go_upto_region 5 with fail
    rw [← HWD.out]
    clear HWD
    go_wp2_with ((with_reducible refine at_st 2 27 ?_); refine ev_store (o := ⟨none, .store _ (.tmp 2) _, _, _, _, _⟩) rfl rfl TRx (.tmp 2) (.tmp 27) rfl (w.heap.size) 0 rfl [.int .i64 0, nilS, nilS] rfl _ TRx M0D.out (sizeRx' _ _ _) (by show 0 + 3 ≤ 3; omega) (three_one _ _ _ _ _ _ _) ?_; intro w5 hX5 hg5; have HX5 : Hid (Blk w5 (w.heap.size) ([.int .i64 0, nilS, nilS]).toArray TRx) := hX5; have HG5 := Lib.hid hg5; clear hX5 hg5)
    refine bodyPost_ret (results_row_tmp' Tryd.results37 _ _ w.heap.size TRx _ (0, 0) _ rfl (HX5.out).eq Tryd.underlying36 rfl (by rw [sizeRx]; rfl) (.bool false) rfl) rfl ?_
    exact rr_none (E.out) (HBD.out.grown HG5.out HBD.out.size (fun q hq => by injection hq with hq; omega))
  | some res =>
    obtain ⟨r, rest⟩ := res
    rw [hr] at hp
    obtain ⟨A4, c4, K4, d4, fp, at3, rfl, ha3, hr3, ho, hnd, hf⟩ := hp
    have hsz := read_size hr hWl
    have HR := Lib.hid (readRex_some HNL.out (by rw [← HWW.out]; exact hr))
    clear hr
    obtain ⟨wD, hwD⟩ : ∃ y, y = w2.alloc (.cells #[.int .i64 r.kind, .slice A4 r.set.length c4, .slice K4 r.kids.length d4] TRx) := ⟨_, rfl⟩
    have bD : Below w2.heap.size w2 wD := by rw [hwD]; exact below_alloc (Below.refl _ _) _
    have mD : Blk wD w2.heap.size #[.int .i64 r.kind, .slice A4 r.set.length c4, .slice K4 r.kids.length d4] TRx := by rw [hwD]; exact blk_new w2 _ _
    have M0D := Lib.hid (M0.out.below bD)
    have HBD := Lib.hid (below_then HB.out bD)
    have HO := Lib.hid (ho.under bD)
    have HF := Lib.hid hf
    have HMD := Lib.hid mD
    have HWD := Lib.hid hwD
    clear ho hf bD hwD mD
    go_upto_region 5 with fail
    rw [← HWD.out]
    clear HWD
    have n0 : wD.cell? ⟨w2.heap.size, 0, none⟩ = some (.int .i64 r.kind) := by rw [HMD.out.cell]; rfl
    have n1 : wD.cell? ⟨w2.heap.size, 1, none⟩ = some (.slice A4 r.set.length c4) := by rw [HMD.out.cell]; rfl
    have n2 : wD.cell? ⟨w2.heap.size, 2, none⟩ = some (.slice K4 r.kids.length d4) := by rw [HMD.out.cell]; rfl
    by_cases hrest : rest = []
    · have hat : at3 = W.length := by
        have := congrArg List.length hr3
        rw [hrest, List.length_drop, List.length_nil] at this
        omega
      subst hat
      subst hrest
      have HR1 : Hid (ro = if rexOk r = true then some r else none) := by show _ = _; rw [HRO.out, HR.out]; simp
      clear hr3 ha3 HR
      go_wp2_with fail
      refine (sRexOk_c r _ _ wD 0 HO.out.rex0 hsz).mono ?_
      rintro e w3 ⟨rfl, b3⟩
      replace M0D := Lib.hid (M0D.out.below b3)
      replace HBD := Lib.hid (below_then HBD.out b3)
      replace HO := Lib.hid (HO.out.under b3)
      replace HMD := Lib.hid (HMD.out.below b3)
      clear n0 n1 n2 b3
      by_cases hok : rexOk r = true
      · have E : Hid (ro = some r) := by show _ = _; rw [HR1.out, if_pos hok]
        rw [hok]
        clear hok HR1
        have n0 : w3.cell? ⟨w2.heap.size, 0, none⟩ = some (.int .i64 r.kind) := by rw [HMD.out.cell]; rfl
        have n1 : w3.cell? ⟨w2.heap.size, 1, none⟩ = some (.slice A4 r.set.length c4) := by rw [HMD.out.cell]; rfl
        have n2 : w3.cell? ⟨w2.heap.size, 2, none⟩ = some (.slice K4 r.kids.length d4) := by rw [HMD.out.cell]; rfl
        go_wp2_with ((with_reducible refine at_st 2 28 ?_); refine ev_store (o := ⟨none, .store _ (.tmp 2) _, _, _, _, _⟩) rfl rfl TRx (.tmp 2) (.tmp 28) rfl (w.heap.size) 0 rfl [.int .i64 r.kind, .slice A4 r.set.length c4, .slice K4 r.kids.length d4] rfl _ TRx M0D.out (sizeRx' _ _ _) (by show 0 + 3 ≤ 3; omega) (three_one _ _ _ _ _ _ _) ?_; intro w5 hX5 hg5; have HX5 : Hid (Blk w5 (w.heap.size) ([.int .i64 r.kind, .slice A4 r.set.length c4, .slice K4 r.kids.length d4]).toArray TRx) := hX5; have HG5 := Lib.hid hg5; clear hX5 hg5)
        refine bodyPost_ret (results_row_tmp' Tryd.results37 _ _ w.heap.size TRx _ (0, 0) _ rfl HX5.out.eq Tryd.underlying36 rfl (by rw [sizeRx]; rfl) (.bool true) rfl) rfl ?_
        exact rr_some (n := w1.heap.size) E.out rfl rfl HO.out HF.out (by omega) HBD.out HG5.out
      · have E : Hid (ro = none) := by show _ = _; rw [HR1.out, if_neg hok]
        rw [show rexOk r = false by simpa using hok]
        clear hok HR1
        go_wp2_with ((with_reducible refine at_st 2 27 ?_); refine ev_store (o := ⟨none, .store _ (.tmp 2) _, _, _, _, _⟩) rfl rfl TRx (.tmp 2) (.tmp 27) rfl (w.heap.size) 0 rfl [.int .i64 0, nilS, nilS] rfl _ TRx M0D.out (sizeRx' _ _ _) (by show 0 + 3 ≤ 3; omega) (three_one _ _ _ _ _ _ _) ?_; intro w5 hX5 hg5; have HX5 : Hid (Blk w5 (w.heap.size) ([.int .i64 0, nilS, nilS]).toArray TRx) := hX5; have HG5 := Lib.hid hg5; clear hX5 hg5)
        refine bodyPost_ret (results_row_tmp' Tryd.results37 _ _ w.heap.size TRx _ (0, 0) _ rfl (HX5.out).eq Tryd.underlying36 rfl (by rw [sizeRx]; rfl) (.bool false) rfl) rfl ?_
        exact rr_none (E.out) (HBD.out.grown HG5.out HBD.out.size (fun q hq => by injection hq with hq; omega))
    · have hat : at3 ≠ W.length := fun e => hrest (by rw [← hr3, e, List.drop_length])
      have e0 : ((at3 : Int) == (W.length : Int)) = false := by rw [beq_eq_false_iff_ne]; omega
      have E : Hid (ro = none) := by show _ = _; rw [HRO.out, HR.out, if_neg (fun h => hrest h.1)]
      clear hrest HR hr3
      go_wp2_with ((with_reducible refine at_st 2 27 ?_); refine ev_store (o := ⟨none, .store _ (.tmp 2) _, _, _, _, _⟩) rfl rfl TRx (.tmp 2) (.tmp 27) rfl (w.heap.size) 0 rfl [.int .i64 0, nilS, nilS] rfl _ TRx M0D.out (sizeRx' _ _ _) (by show 0 + 3 ≤ 3; omega) (three_one _ _ _ _ _ _ _) ?_; intro w5 hX5 hg5; have HX5 : Hid (Blk w5 (w.heap.size) ([.int .i64 0, nilS, nilS]).toArray TRx) := hX5; have HG5 := Lib.hid hg5; clear hX5 hg5)
      refine bodyPost_ret (results_row_tmp' Tryd.results37 _ _ w.heap.size TRx _ (0, 0) _ rfl (HX5.out).eq Tryd.underlying36 rfl (by rw [sizeRx]; rfl) (.bool false) rfl) rfl ?_
      exact rr_none (E.out) (HBD.out.grown HG5.out HBD.out.size (fun q hq => by injection hq with hq; omega))

set_option maxHeartbeats 4000000 in
theorem iRexRead_c (t : ByteArray) (w : World) (hs : t.size ≤ 1048576) (hp10 : Pow10 w) (hmx : MaxL w) :
    Calls Tryd.prog 38 #[.string t] w (RexReadPost (readRex t.data.toList) w) := by
  have HP := Lib.hid hp10
  have HM := Lib.hid hmx
  clear hp10 hmx
  have HL := Lib.hid (bytes_len t)
  obtain ⟨ro, hro⟩ : ∃ o, o = readRex t.data.toList := ⟨_, rfl⟩
  rw [← hro]
  have HRO := Lib.hid hro
  clear hro
  obtain ⟨wa, hwa⟩ : ∃ y, y = w.alloc zRx := ⟨_, rfl⟩
  have HB : Hid (Below w.heap.size w wa) := by rw [hwa]; exact below_alloc (Below.refl _ _) _
  have M0 : Hid (Blk wa w.heap.size #[.int .i64 0, nilS, nilS] TRx) := by rw [hwa]; exact blk_new w _ _
  have HZ : Hid (w.heap.size + 1 ≤ wa.heap.size) := by rw [hwa]; show _ ≤ _; simp
  replace hwa := hwa.symm
  go_enter Tryd.func38, Tryd.ntmps38
  by_cases hlong : 4000 < t.size
  · have d1 : (4000 : Int) < (t.size : Int) := by omega
    have E : Hid (ro = none) := by show _ = _; rw [HRO.out]; exact readRex_long (by rw [HL.out]; exact hlong)
    clear hlong
    go_wp2_with ((with_reducible refine at_st 2 10 ?_); refine ev_store (o := ⟨none, .store _ (.tmp 2) _, _, _, _, _⟩) rfl rfl TRx (.tmp 2) (.tmp 10) rfl (w.heap.size) 0 rfl [.int .i64 0, nilS, nilS] rfl _ TRx M0.out (sizeRx' _ _ _) (by show 0 + 3 ≤ 3; omega) (three_one _ _ _ _ _ _ _) ?_; intro w5 hX5 hg5; have HX5 : Hid (Blk w5 (w.heap.size) ([.int .i64 0, nilS, nilS]).toArray TRx) := hX5; have HG5 := Lib.hid hg5; clear hX5 hg5)
    refine bodyPost_ret (results_row_tmp' Tryd.results38 _ _ w.heap.size TRx _ (0, 0) _ rfl (HX5.out).eq Tryd.underlying36 rfl (by rw [sizeRx]; rfl) (.bool false) rfl) rfl ?_
    exact rr_none (E.out) (HB.out.grown HG5.out HB.out.size (fun q hq => by injection hq with hq; omega))
  have d1 : ¬ (4000 : Int) < (t.size : Int) := by omega
  have HNL : Hid (¬ 4000 < t.data.toList.length) := by show ¬ _; rw [HL.out]; exact hlong
  go_wp2_with fail
  clear hwa
  refine (iSplit32_c t wa hs (HM.out.below HB.out)).mono ?_
  rintro e w1 ⟨g, rfl, hown, b1⟩
  obtain ⟨W, hW⟩ : ∃ W, W = cutAt 32 t.data.toList := ⟨_, rfl⟩
  have hWp : 0 < W.length := by rw [hW]; exact List.length_pos_iff.2 (cutAt_pos _ _)
  have hWl : W.length ≤ 4001 := by have := cutAt_len 32 t.data.toList; rw [hW]; rw [HL.out] at this; omega
  have HWM : Hid (∀ v ∈ W, v.length ≤ 4000) := fun v hv => by
    have := cutAt_mem 32 t.data.toList v (by rw [← hW]; exact hv)
    have := HNL.out
    omega
  rw [← hW] at hown ⊢
  have HWW := Lib.hid hW
  clear hW
  obtain ⟨g', hg', hst⟩ := str_at hown rfl hWp
  have hst' : StrAt w1 g 0 W := by injection hg' with hg'; injection hg' with hg'; rw [hg']; exact hst
  have HST := Lib.hid hst'
  replace M0 := Lib.hid (M0.out.below b1)
  replace HB := Lib.hid (below_then HB.out b1)
  replace HZ := Lib.hid (Nat.le_trans HZ.out b1.size)
  clear hst hst' hg' hown b1 d1 hlong
  go_wp2_with fail
  refine (iRead8_c g W w1 HST.out hWl HWM.out (HP.out.below HB.out) (HM.out.below HB.out)).mono ?_
  rintro e w2 ⟨hp, b2⟩
  replace M0 := Lib.hid (M0.out.below b2)
  replace HB := Lib.hid (below_then HB.out b2)
  have HZ2 := Lib.hid (Nat.le_trans HZ.out b2.size)
  have HZZ := HZ.out
  clear b2
  cases hr : readW 8 W with
  | none =>
    rw [hr] at hp
    obtain ⟨k9, A9, m9, c9, K9, q9, ck9, rfl⟩ := hp
    have E : Hid (ro = none) := by show _ = _; rw [HRO.out]; exact readRex_none HNL.out (by rw [← HWW.out]; exact hr)
    clear hr
    obtain ⟨wD, hwD⟩ : ∃ y, y = w2.alloc (.cells #[.int .i64 k9, .slice A9 m9 c9, .slice K9 q9 ck9] TRx) := ⟨_, rfl⟩
    have bD : Below w2.heap.size w2 wD := by rw [hwD]; exact below_alloc (Below.refl _ _) _
    have M0D := Lib.hid (M0.out.below bD)
    have HBD := Lib.hid (below_then HB.out bD)
    have HWD := Lib.hid hwD
    clear bD hwD
    go_upto_region 4 with fail
    rw [← HWD.out]
    clear HWD
    go_wp2_with ((with_reducible refine at_st 2 36 ?_); refine ev_store (o := ⟨none, .store _ (.tmp 2) _, _, _, _, _⟩) rfl rfl TRx (.tmp 2) (.tmp 36) rfl (w.heap.size) 0 rfl [.int .i64 0, nilS, nilS] rfl _ TRx M0D.out (sizeRx' _ _ _) (by show 0 + 3 ≤ 3; omega) (three_one _ _ _ _ _ _ _) ?_; intro w5 hX5 hg5; have HX5 : Hid (Blk w5 (w.heap.size) ([.int .i64 0, nilS, nilS]).toArray TRx) := hX5; have HG5 := Lib.hid hg5; clear hX5 hg5)
    refine bodyPost_ret (results_row_tmp' Tryd.results38 _ _ w.heap.size TRx _ (0, 0) _ rfl (HX5.out).eq Tryd.underlying36 rfl (by rw [sizeRx]; rfl) (.bool false) rfl) rfl ?_
    exact rr_none (E.out) (HBD.out.grown HG5.out HBD.out.size (fun q hq => by injection hq with hq; omega))
  | some res =>
    obtain ⟨r, rest⟩ := res
    rw [hr] at hp
    obtain ⟨A4, c4, K4, d4, fp, off3, rfl, hs3, ho, hnd, hf⟩ := hp
    have hsz := read_size hr hWl
    have HR := Lib.hid (readRex_some HNL.out (by rw [← HWW.out]; exact hr))
    have HTX : Hid (rest = [] → rexTxt r = t.data.toList) := fun e => readW_txt (by rw [← HWW.out, hr, e])
    clear hr hs3
    obtain ⟨wD, hwD⟩ : ∃ y, y = w2.alloc (.cells #[.int .i64 r.kind, .slice A4 r.set.length c4, .slice K4 r.kids.length d4] TRx) := ⟨_, rfl⟩
    have bD : Below w2.heap.size w2 wD := by rw [hwD]; exact below_alloc (Below.refl _ _) _
    have mD : Blk wD w2.heap.size #[.int .i64 r.kind, .slice A4 r.set.length c4, .slice K4 r.kids.length d4] TRx := by rw [hwD]; exact blk_new w2 _ _
    have M0D := Lib.hid (M0.out.below bD)
    have HBD := Lib.hid (below_then HB.out bD)
    have HO := Lib.hid (ho.under bD)
    have HF := Lib.hid hf
    have HMD := Lib.hid mD
    have HWD := Lib.hid hwD
    clear ho hf bD hwD mD
    go_upto_region 4 with fail
    rw [← HWD.out]
    clear HWD
    have n0 : wD.cell? ⟨w2.heap.size, 0, none⟩ = some (.int .i64 r.kind) := by rw [HMD.out.cell]; rfl
    have n1 : wD.cell? ⟨w2.heap.size, 1, none⟩ = some (.slice A4 r.set.length c4) := by rw [HMD.out.cell]; rfl
    have n2 : wD.cell? ⟨w2.heap.size, 2, none⟩ = some (.slice K4 r.kids.length d4) := by rw [HMD.out.cell]; rfl
    by_cases hrest : rest = []
    · subst hrest
      have HR1 : Hid (ro = if rexOk r = true then some r else none) := by show _ = _; rw [HRO.out, HR.out]; simp
      have HTX1 := Lib.hid (HTX.out rfl)
      clear HR HTX
      rw [List.length_nil]
      go_wp2_with fail
      refine (iRexOk_c r _ _ wD 0 HO.out.rex0 hsz).mono ?_
      rintro e w3 ⟨rfl, b3⟩
      replace M0D := Lib.hid (M0D.out.below b3)
      replace HBD := Lib.hid (below_then HBD.out b3)
      replace HO := Lib.hid (HO.out.under b3)
      replace HMD := Lib.hid (HMD.out.below b3)
      clear n0 n1 n2 b3
      by_cases hok : rexOk r = true
      · have E : Hid (ro = some r) := by show _ = _; rw [HR1.out, if_pos hok]
        have ET : rexText r = t.data.toList := by rw [rexText, if_pos hok]; exact HTX1.out
        have ET2 := Lib.hid ET
        rw [hok]
        clear hok HR1 ET
        have n0 : w3.cell? ⟨w2.heap.size, 0, none⟩ = some (.int .i64 r.kind) := by rw [HMD.out.cell]; rfl
        have n1 : w3.cell? ⟨w2.heap.size, 1, none⟩ = some (.slice A4 r.set.length c4) := by rw [HMD.out.cell]; rfl
        have n2 : w3.cell? ⟨w2.heap.size, 2, none⟩ = some (.slice K4 r.kids.length d4) := by rw [HMD.out.cell]; rfl
        go_wp2_with fail
        refine (iRexText_c r _ _ w3 0 HO.out.rex0 hsz (HP.out.below HBD.out)).mono ?_
        rintro e w4 ⟨rfl, b4⟩
        rw [ET2.out, str_of]
        replace M0D := Lib.hid (M0D.out.below b4)
        replace HBD := Lib.hid (below_then HBD.out b4)
        replace HO := Lib.hid (HO.out.under b4)
        replace HMD := Lib.hid (HMD.out.below b4)
        have HZ4 : Hid (w.heap.size < w4.heap.size) := by
          have := M0D.out.lt
          exact this
        clear n0 n1 n2 b4
        have n0 : w4.cell? ⟨w2.heap.size, 0, none⟩ = some (.int .i64 r.kind) := by rw [HMD.out.cell]; rfl
        have n1 : w4.cell? ⟨w2.heap.size, 1, none⟩ = some (.slice A4 r.set.length c4) := by rw [HMD.out.cell]; rfl
        have n2 : w4.cell? ⟨w2.heap.size, 2, none⟩ = some (.slice K4 r.kids.length d4) := by rw [HMD.out.cell]; rfl
        go_wp2_with fail
        refine (rexCopy_c r _ _ w4 0 HO.out.rex0 (by omega)).mono ?_
        rintro e w6 hc
        obtain ⟨u1, u2, fp6, rfl, ho6, hn6, hf6, b6⟩ := hc
        rw [← Rex.eta] at ho6
        obtain ⟨L6, fk6, _, _, hs6, hk6⟩ := ho6.parts
        obtain ⟨A6, c6, rfl, _⟩ := hs6.sps
        obtain ⟨K6, k6, rfl, _, _⟩ := own_row hk6.hk
        have HO6 := Lib.hid ho6
        have HF6 := Lib.hid hf6
        replace M0D := Lib.hid (M0D.out.below b6)
        replace HBD := Lib.hid (below_then HBD.out b6)
        clear n0 n1 n2 b6 ho6 hf6 hs6 hk6
        go_wp2_with ((with_reducible refine at_st 2 38 ?_); refine ev_store (o := ⟨none, .store _ (.tmp 2) _, _, _, _, _⟩) rfl rfl TRx (.tmp 2) (.tmp 38) rfl (w.heap.size) 0 rfl [.int .i64 r.kind, .slice A6 r.set.length c6, .slice K6 r.kids.length k6] rfl _ TRx M0D.out (sizeRx' _ _ _) (by show 0 + 3 ≤ 3; omega) (three_one _ _ _ _ _ _ _) ?_; intro w5 hX5 hg5; have HX5 : Hid (Blk w5 (w.heap.size) ([.int .i64 r.kind, .slice A6 r.set.length c6, .slice K6 r.kids.length k6]).toArray TRx) := hX5; have HG5 := Lib.hid hg5; clear hX5 hg5)
        refine bodyPost_ret (results_row_tmp' Tryd.results38 _ _ w.heap.size TRx _ (0, 0) _ rfl HX5.out.eq Tryd.underlying36 rfl (by rw [sizeRx]; rfl) (.bool true) rfl) rfl ?_
        exact rr_some (n := w4.heap.size) E.out rfl rfl HO6.out HF6.out HZ4.out HBD.out HG5.out
      · have E : Hid (ro = none) := by show _ = _; rw [HR1.out, if_neg hok]
        rw [show rexOk r = false by simpa using hok]
        clear hok HR1
        go_wp2_with ((with_reducible refine at_st 2 36 ?_); refine ev_store (o := ⟨none, .store _ (.tmp 2) _, _, _, _, _⟩) rfl rfl TRx (.tmp 2) (.tmp 36) rfl (w.heap.size) 0 rfl [.int .i64 0, nilS, nilS] rfl _ TRx M0D.out (sizeRx' _ _ _) (by show 0 + 3 ≤ 3; omega) (three_one _ _ _ _ _ _ _) ?_; intro w5 hX5 hg5; have HX5 : Hid (Blk w5 (w.heap.size) ([.int .i64 0, nilS, nilS]).toArray TRx) := hX5; have HG5 := Lib.hid hg5; clear hX5 hg5)
        refine bodyPost_ret (results_row_tmp' Tryd.results38 _ _ w.heap.size TRx _ (0, 0) _ rfl (HX5.out).eq Tryd.underlying36 rfl (by rw [sizeRx]; rfl) (.bool false) rfl) rfl ?_
        exact rr_none (E.out) (HBD.out.grown HG5.out HBD.out.size (fun q hq => by injection hq with hq; omega))
    · have hrl : 0 < rest.length := List.length_pos_iff.2 hrest
      have e0 : (0 : Int) < (rest.length : Int) := by omega
      have E : Hid (ro = none) := by show _ = _; rw [HRO.out, HR.out, if_neg (fun h => hrest h.1)]
      clear hrest HR HTX
      go_wp2_with ((with_reducible refine at_st 2 36 ?_); refine ev_store (o := ⟨none, .store _ (.tmp 2) _, _, _, _, _⟩) rfl rfl TRx (.tmp 2) (.tmp 36) rfl (w.heap.size) 0 rfl [.int .i64 0, nilS, nilS] rfl _ TRx M0D.out (sizeRx' _ _ _) (by show 0 + 3 ≤ 3; omega) (three_one _ _ _ _ _ _ _) ?_; intro w5 hX5 hg5; have HX5 : Hid (Blk w5 (w.heap.size) ([.int .i64 0, nilS, nilS]).toArray TRx) := hX5; have HG5 := Lib.hid hg5; clear hX5 hg5)
      refine bodyPost_ret (results_row_tmp' Tryd.results38 _ _ w.heap.size TRx _ (0, 0) _ rfl (HX5.out).eq Tryd.underlying36 rfl (by rw [sizeRx]; rfl) (.bool false) rfl) rfl ?_
      exact rr_none (E.out) (HBD.out.grown HG5.out HBD.out.size (fun q hq => by injection hq with hq; omega))

end Go.Proofs.YtlchipjckgaclaaDoor

/- Marks in trees, and whether they are held. -/
namespace Go.Proofs.YtlchipjckgaclaaDoor
set_option linter.unusedSimpArgs false
set_option linter.unusedVariables false
set_option maxRecDepth 100000
open Go.RowKit

mutual
/-- how many numbers a tree holds in memory -/
def Rex.cnt : Rex → Nat
  | .mk _ s ks => 2 * s.length + cntL ks
def cntL : List Rex → Nat
  | [] => 0
  | r :: rs => (1 + r.cnt) + cntL rs
end
mutual
def markN : Int → Rex → Rex
  | q, .mk _ s ks => .mk q (markSps (q + 1) s) (markL (q + 1 + 2 * (s.length : Int)) ks)
def markL : Int → List Rex → List Rex
  | _, [] => []
  | q, r :: rs => markN q r :: markL (q + (1 + (r.cnt : Int))) rs
end
def markT (q : Int) (r : Rex) : Rex := .mk r.kind (markSps q r.set) (markL (q + 2 * (r.set.length : Int)) r.kids)
theorem markN_of (q : Int) (r : Rex) : markN q r = .mk q (markSps (q + 1) r.set) (markL (q + 1 + 2 * (r.set.length : Int)) r.kids) := by cases r; rw [markN]; rfl
theorem cnt_of (r : Rex) : r.cnt = 2 * r.set.length + cntL r.kids := by cases r; rw [Rex.cnt]; rfl
theorem markL_length : ∀ (ks : List Rex) (q : Int), (markL q ks).length = ks.length
  | [], q => by rw [markL]
  | r :: rs, q => by rw [markL, List.length_cons, List.length_cons, markL_length rs]
theorem markL_drop : ∀ (ks : List Rex) (q : Int) (j : Nat), (markL q ks).drop j = markL (q + cntL (ks.take j)) (ks.drop j)
  | ks, q, 0 => by simp [cntL]
  | [], q, j + 1 => by simp [markL, cntL]
  | r :: rs, q, j + 1 => by
    rw [markL, List.drop_succ_cons, markL_drop rs _ j, List.drop_succ_cons, List.take_succ_cons, cntL]
    congr 1
    omega
theorem markL_get {ks : List Rex} {q : Int} {j : Nat} {r : Rex} (h : ks[j]? = some r) : (markL q ks)[j]? = some (markN (q + cntL (ks.take j)) r) := by
  have hj := (List.getElem?_eq_some_iff.1 h).1
  have e : (markL q ks)[j]? = ((markL q ks).drop j)[0]? := by rw [List.getElem?_drop]; simp
  rw [e, markL_drop, List.drop_eq_getElem_cons hj, markL]
  have : ks[j] = r := by rw [List.getElem?_eq_getElem hj] at h; exact Option.some.inj h
  rw [this]
  rfl
theorem cntL_take {ks : List Rex} {j : Nat} {r : Rex} (h : ks[j]? = some r) : cntL (ks.take (j + 1)) = cntL (ks.take j) + (1 + r.cnt) := by
  induction ks generalizing j with
  | nil => simp at h
  | cons x xs ih =>
    cases j with
    | zero => simp at h; subst h; simp [cntL]
    | succ j => rw [List.take_succ_cons, cntL, ih (by simpa using h), List.take_succ_cons, cntL]; omega
theorem cntL_take_le (ks : List Rex) (j : Nat) : cntL (ks.take j) ≤ cntL ks := by
  induction ks generalizing j with
  | nil => simp [cntL]
  | cons x xs ih => cases j with
    | zero => simp [cntL]
    | succ j => rw [List.take_succ_cons, cntL, cntL]; have := ih j; omega
theorem mix_step {α : Type} (M ks : List α) (j : Nat) (r r' : α) (h : ks[j]? = some r) (h' : M[j]? = some r') (hl : M.length = ks.length) : (M.take j ++ ks.drop j).set j r' = M.take (j + 1) ++ ks.drop (j + 1) := by
  have hj := (List.getElem?_eq_some_iff.1 h).1
  have e : (M.take j).length = j := by rw [List.length_take]; omega
  rw [List.drop_eq_getElem_cons hj, List.set_append, if_neg (by omega), e, Nat.sub_self, List.set_cons_zero, List.take_add_one, h']
  simp
theorem mix_get {α : Type} (M ks : List α) (j : Nat) (hj : j < ks.length) (hl : M.length = ks.length) : (M.take j ++ ks.drop j)[j]? = ks[j]? := by
  have e : (M.take j).length = j := by rw [List.length_take]; omega
  rw [List.getElem?_append_right (by omega), e, Nat.sub_self, List.getElem?_drop]
  simp
theorem mix_length {α : Type} (M ks : List α) (j : Nat) (hl : M.length = ks.length) (hj : j ≤ ks.length) : (M.take j ++ ks.drop j).length = ks.length := by
  rw [List.length_append, List.length_take, List.length_drop]; omega

/-- an element of a row of trees that a call made -/
theorem OwnK.at_ {w : World} {fk : List Nat} {ks : List Rex} {K : Option Addr} {n ck : Nat} {L : List KInfo} (h : OwnK w fk ks (.slice K n ck) L) (j : Nat) {r : Rex} (hr : ks[j]? = some r) :
    ∃ g A c K' ck' fp, K = some ⟨g, 0, none⟩ ∧ Hid (L[j]? = some ⟨fp, .slice A r.set.length c, .slice K' r.kids.length ck'⟩) ∧ Hid (OwnT w fp r (.slice A r.set.length c) (.slice K' r.kids.length ck')) ∧
      w.cell? ⟨g, j * 3, none⟩ = some (.int .i64 r.kind) ∧ w.cell? ⟨g, j * 3 + 1, none⟩ = some (.slice A r.set.length c) ∧ w.cell? ⟨g, j * 3 + 2, none⟩ = some (.slice K' r.kids.length ck') ∧ w.frozen? ⟨g, j * 3, none⟩ = false := by
  obtain ⟨hL, hk, hn, hrr, fe, nd⟩ := h
  have hj := (List.getElem?_eq_some_iff.1 hr).1
  obtain ⟨x, hx⟩ : ∃ x, L[j]? = some x := ⟨L[j]'(by omega), List.getElem?_eq_getElem _⟩
  have hT := hrr j r x hr hx
  obtain ⟨g0, g1, g2⟩ := kcells_get ks L j r x hr hx hL
  obtain ⟨L', fk', _, _, hs, hk'⟩ := hT.parts
  obtain ⟨A, c, e1, _⟩ := hs.sps
  obtain ⟨K', ck', e2, _, _⟩ := own_row hk'.hk
  rcases hk.2 with ⟨_, h0⟩ | ⟨g, cap, cur, e, hg, hh, r2⟩
  · omega
  · injection e with ea eb ec
    subst ea eb ec
    obtain ⟨fp, y1, y2⟩ := x
    dsimp only at e1 e2 hT g1 g2
    subst e1 e2
    have hlen := kcells_length ks L hL
    exact ⟨g, A, c, K', ck', fp, rfl, hx, hT, (hk.cellAt _ (by omega)).trans g0, (hk.cellAt _ (by omega)).trans g1, (hk.cellAt _ (by omega)).trans g2, hk.frozenAt _⟩
theorem kcells_set : ∀ (rs : List Rex) (L : List KInfo) (j : Nat) (r : Rex) (q : Int) (s : List Sp) (ks : List Rex), rs[j]? = some r → rs.length = L.length → (kcells rs L).set (j * 3) (.int .i64 q) = kcells (rs.set j (.mk q s ks)) L
  | [], _, j, r, q, s, ks, h, _ => by simp at h
  | r' :: rs, [], j, r, q, s, ks, _, h => by simp at h
  | r' :: rs, x :: L, 0, r, q, s, ks, h, hl => by simp [kcells, kcell, Rex.kind]
  | r' :: rs, x :: L, j + 1, r, q, s, ks, h, hl => by
    have := kcells_set rs L j r q s ks (by simpa using h) (by simpa using hl)
    rw [show (j + 1) * 3 = j * 3 + 1 + 1 + 1 by omega]
    simp only [kcells, kcell, List.cons_append, List.nil_append, List.set_cons_succ, this]
theorem kcells_same : ∀ (rs : List Rex) (L : List KInfo) (j : Nat) (r r' : Rex), rs[j]? = some r → r'.kind = r.kind → kcells (rs.set j r') L = kcells rs L
  | [], _, j, r, r', h, _ => by simp at h
  | r0 :: rs, [], j, r, r', _, _ => by cases j <;> simp [kcells]
  | r0 :: rs, x :: L, 0, r, r', h, e => by simp at h; subst h; simp [kcells, kcell, e]
  | r0 :: rs, x :: L, j + 1, r, r', h, e => by
    have := kcells_same rs L j r r' (by simpa using h) e
    simp only [List.set_cons_succ, kcells, this]
theorem vblk_of_some {g n c : Nat} : vblk (.slice (some ⟨g, 0, none⟩) n c) = [g] := rfl
/-- a kind is stored -/
theorem OwnK.set_kind {w : World} {fk : List Nat} {ks : List Rex} {g n ck : Nat} {L : List KInfo} (h : OwnK w fk ks (.slice (some ⟨g, 0, none⟩) n ck) L) (j : Nat) {r : Rex} (hr : ks[j]? = some r) (q : Int) :
    OwnK (w.setCell ⟨g, j * 3, none⟩ (.int .i64 q)) fk (ks.set j (.mk q r.set r.kids)) (.slice (some ⟨g, 0, none⟩) n ck) L := by
  obtain ⟨hL, hk, hn, hrr, fe, nd⟩ := h
  have hl : (ks.set j (.mk q r.set r.kids)).length = ks.length := List.length_set
  have en : n = ks.length := by
    rcases hk.2 with ⟨h0, _⟩ | ⟨g', cap', cur, h0, _⟩
    · simp at h0
    · simp at h0; exact h0.2.1
  subst en
  have s1 := (hk.stored (j * 3) (.int .i64 q)).1
  rw [kcells_set ks L j r q r.set r.kids hr hL] at s1
  refine ⟨by rw [hl]; exact hL, by rw [hl]; exact s1, by rw [hl]; exact hn, fun i r' x hi hx => ?_, fe, nd⟩
  have stay : ∀ {r0 : Rex}, OwnT w x.fp r0 x.v1 x.v2 → OwnT (w.setCell ⟨g, j * 3, none⟩ (.int .i64 q)) x.fp r0 x.v1 x.v2 := fun hT => hT.stay fun b hb => by
    refine Below.heap_setCell _ _ _ _ fun e => ?_
    rw [fe, vblk_of_some] at nd
    exact (List.nodup_cons.1 nd).1 (by have := mem_fps.2 ⟨i, x, hx, hb⟩; rw [show b = g from e] at this; exact this)
  rw [List.getElem?_set] at hi
  split at hi
  · rename_i e
    subst e
    split at hi
    · injection hi with hi
      subst hi
      have hT := hrr j r x hr hx
      obtain ⟨L', fk', e1, e2, hs, hk'⟩ := hT.parts
      have hN := OwnT.of (k := q) hs hk' (by rw [← e1]; exact e2)
      rw [← e1] at hN
      exact stay hN
    · cases hi
  · exact stay (hrr i r' x hi hx)
/-- a kid is turned in its own blocks -/
theorem OwnK.set_kid {w w' : World} {fk : List Nat} {ks : List Rex} {v2 : Value} {L : List KInfo} (h : OwnK w fk ks v2 L) (j : Nat) {r r' : Rex} {x : KInfo} (hr : ks[j]? = some r) (hx : L[j]? = some x) (ht : Touch x.fp w w') (ho : OwnT w' x.fp r' x.v1 x.v2) (hk : r'.kind = r.kind) :
    OwnK w' fk (ks.set j r') v2 L := by
  have hlt := h.lt
  obtain ⟨hL, hkk, hn, hrr, fe, nd⟩ := h
  have hl : (ks.set j r').length = ks.length := List.length_set
  rw [fe] at nd hlt
  obtain ⟨nd1, nd2, nd3⟩ := List.nodup_append.1 nd
  refine ⟨by rw [hl]; exact hL, by rw [hl, kcells_same ks L j r r' hr hk]; exact own_move hkk fun g hg => ht.block g (hkk.lt g hg).2 fun h2 => nd3 g (mem_vblk.2 hg) g (mem_fps.2 ⟨j, x, hx, h2⟩) rfl, by rw [hl]; exact hn, fun i r0 y hi hy => ?_, fe, by rw [fe]; exact nd⟩
  rw [List.getElem?_set] at hi
  split at hi
  · rename_i e
    subst e
    split at hi
    · injection hi with hi
      subst hi
      rw [hx] at hy
      injection hy with hy
      subst hy
      exact ho
    · cases hi
  · rename_i hne
    have hT := hrr i r0 y hi hy
    refine hT.stay fun b hb => ht.block b (hT.lt b hb) fun h2 => ?_
    -- two kids have no block in common
    have key : ∀ (M : List KInfo) (i j : Nat) (x y : KInfo), (fps M).Nodup → M[i]? = some x → M[j]? = some y → i ≠ j → ∀ b, b ∈ x.fp → b ∈ y.fp → False := by
      intro M
      induction M with
      | nil => intro i j x y _ h; simp at h
      | cons z M ih =>
        intro i j x y hn hi hj hij b h1 h2
        rw [fps_cons] at hn
        obtain ⟨n1, n2, n3⟩ := List.nodup_append.1 hn
        cases i with
        | zero =>
          cases j with
          | zero => exact hij rfl
          | succ j => simp at hi hj; subst hi; exact n3 b h1 b (mem_fps.2 ⟨j, y, hj, h2⟩) rfl
        | succ i =>
          cases j with
          | zero => simp at hi hj; subst hj; exact n3 b h2 b (mem_fps.2 ⟨i, x, hi, h1⟩) rfl
          | succ j => exact ih i j x y n2 (by simpa using hi) (by simpa using hj) (by omega) b h1 h2
    exact key L j i x y nd2 hx hy hne b h2 hb
end Go.Proofs.YtlchipjckgaclaaDoor
