/- markRex, markRexS. -/
import Derived.Test.YtiaccimbkghofaaM1
namespace Go.Proofs.Ytiaccimbkghofaa
set_option linter.unusedSimpArgs false
set_option linter.unusedVariables false
open Go.RowKit

theorem set_mk (k : Int) (s : List Sp) (ks : List Rex) : (Rex.mk k s ks).set = s := rfl
theorem kids_mk (k : Int) (s : List Sp) (ks : List Rex) : (Rex.mk k s ks).kids = ks := rfl
theorem kind_mk (k : Int) (s : List Sp) (ks : List Rex) : (Rex.mk k s ks).kind = k := rfl
def MarkOk (ks : List Rex) : Prop := ∀ (fk : List Nat) (K : Option Addr) (ck : Nat) (L : List KInfo) (q : Int) (w : World), OwnK w fk ks (.slice K ks.length ck) L → 0 ≤ q → q + cntL ks ≤ 1073741824 →
  Calls Try.prog 64 #[.slice K ks.length ck, .int .i64 q] w fun e w' => e = .returned (.int .i64 (q + cntL ks)) ∧ OwnK w' fk (markL q ks) (.slice K ks.length ck) L ∧ Touch fk w w'

theorem OwnK.len_le {w : World} {fk : List Nat} {ks : List Rex} {v2 : Value} {L : List KInfo} (h : OwnK w fk ks v2 L) : ks.length ≤ 9223372036854775807 := h.hn

set_option maxHeartbeats 4000000 in
theorem markRexS_of (ks : List Rex) (ih : ∀ r, r ∈ ks → MarkOk r.kids) : MarkOk ks := by
  intro fk K ck L q w h h0 h1
  have hlen := h.len_le
  have HO := Lib.hid h
  have HL := Lib.hid (markL_length ks q)
  clear h
  go_enter Try.func64, Try.ntmps64
  go_wp2
  go_loopg [1, 5] (ks.length) (fun n q' i wr => ∃ j : Nat, j + n = ks.length ∧ i = .int .i64 j ∧ q' = .int .i64 (q + cntL (ks.take j)) ∧ Hid (OwnK wr fk ((markL q ks).take j ++ ks.drop j) (.slice K ks.length ck) L) ∧ Hid (Touch fk w wr))
  case atStart => exact ⟨0, by omega, rfl, by simp [cntL], by simpa [Hid] using HO.out, Touch.refl _ _⟩
  case round =>
    obtain ⟨j, hj, rfl, rfl, HK, HT⟩ := hrel
    have hle := cntL_take_le ks j
    by_cases hlt : j < ks.length
    · have hr : ks[j]? = some ks[j] := List.getElem?_eq_getElem hlt
      obtain ⟨r, hr'⟩ : ∃ r, r = ks[j] := ⟨_, rfl⟩
      rw [← hr'] at hr
      clear hr'
      have hr2 := hr
      rw [← mix_get (markL q ks) ks j hlt HL.out] at hr2
      obtain ⟨g, _, _, _, _, _, rfl, _, _, c0, _, _, f0⟩ := HK.out.at_ j hr2
      have HR := Lib.hid hr
      have HR2 := Lib.hid hr2
      have hct := cntL_take hr
      have hcl := cntL_take_le ks (j + 1)
      have hcn := cnt_of r
      have hmem := List.mem_of_getElem? hr
      obtain ⟨p, hp⟩ : ∃ p : Nat, p = cntL (ks.take j) := ⟨_, rfl⟩
      rw [← hp] at hct hle ⊢
      have HP := Lib.hid hp
      have HCT := Lib.hid hct
      have HCN := Lib.hid hcn
      have hb1 : q + (p : Int) + 1 + 2 * (r.set.length : Int) + cntL r.kids ≤ 1073741824 := by omega
      clear hr hr2 hp hct hcn hcl hle
      -- the world behind the store of the kind
      obtain ⟨ws, hws⟩ : ∃ x, x = wr.setCell ⟨g, j * 3, none⟩ (.int .i64 (q + (p : Int))) := ⟨_, rfl⟩
      have hs1 := HK.out.set_kind j HR2.out (q + (p : Int))
      have ht1 := HT.out.set (p := ⟨g, j * 3, none⟩) (by rw [HK.out.fe]; simp [vblk_of_some]) (.int .i64 (q + (p : Int)))
      have hX1 : (((markL q ks).take j ++ ks.drop j).set j (.mk (q + (p : Int)) r.set r.kids))[j]? = some (.mk (q + (p : Int)) r.set r.kids) := by
        rw [List.getElem?_set, if_pos rfl, if_pos (by rw [mix_length _ _ _ HL.out (by omega)]; exact hlt)]
      rw [← hws] at hs1 ht1
      replace hws := hws.symm
      have HS1 := Lib.hid hs1
      have HT1 := Lib.hid ht1
      have HX1 := Lib.hid hX1
      clear hX1 hs1 ht1
      obtain ⟨g', A, c, K2, ck2, fp, eK, HX, HY, _, d1, d2, _⟩ := HS1.out.at_ j HX1.out
      injection eK with eK
      injection eK with eK
      subst eK
      simp only [set_mk, kids_mk] at HX HY d1 d2
      obtain ⟨L1, fk1, hfp, hnd, hos, hok⟩ := HY.out.parts
      simp only [set_mk, kids_mk] at hos hok
      have HFP := Lib.hid hfp
      have HND := Lib.hid hnd
      have HOS := Lib.hid hos
      have HOK := Lib.hid hok
      clear hfp hnd hos hok
      have hslen : r.set.length ≤ 1073741824 := by omega
      have HFd : Hid (fk = g :: fps L) := by have := HS1.out.fe; rw [vblk_of_some] at this; exact this
      have HGN : Hid (g ∉ fp) := fun hg => by
        have n := HS1.out.nd
        rw [HFd.out] at n
        exact (List.nodup_cons.1 n).1 (mem_fps.2 ⟨j, _, HX.out, hg⟩)
      go_wp2_with fail
      clear hws c0 f0
      refine (markSpanS_c A c r.set _ _ HOS.out (by omega) (by omega) hslen).mono ?_
      rintro e w2 ⟨rfl, os2, g2⟩
      have T2 := Touch.of_grown g2
      have HT2 := Lib.hid T2
      have HOS2 := Lib.hid os2
      have hgv : g ∉ vblk (.slice A r.set.length c) := fun hg => HGN.out (by rw [HFP.out]; simp [hg])
      have n2 : w2.cell? ⟨g, j * 3 + 2, none⟩ = some (.slice K2 r.kids.length ck2) := by
        rw [World.cell?_of_block (w := ws) (T2.block g (World.block_lt_of_cell? ws _ d2) hgv)]
        exact d2
      have HOK2 : Hid (OwnK w2 fk1 r.kids (.slice K2 r.kids.length ck2) L1) := HOK.out.stay fun b hb => T2.block b (HOK.out.lt b hb) fun hv => by
        have n := HND.out
        rw [HFP.out] at n
        exact (List.nodup_append.1 n).2.2 b hv b hb rfl
      clear T2 g2 os2 d1 d2 hgv
      go_wp2_with fail
      refine (ih r hmem fk1 K2 ck2 L1 _ _ HOK2.out (by omega) (by omega)).mono ?_
      rintro e w3 ⟨rfl, ok3, t3⟩
      have HOK3 := Lib.hid ok3
      have HT3 := Lib.hid t3
      clear n2 ok3 t3
      go_wp2
      go_roundg (gk - 1)
      case rel =>
        have hct := HCT.out
        have hcn := HCN.out
        have hpp := HP.out
        refine ⟨j + 1, by omega, by go_num, by rw [hct]; congr 1; omega, ?_, ?_⟩
        · -- the kid in its own blocks
          have hos3 : OwnSp w3 0 (.slice A r.set.length c) (markSps (q + (p : Int) + 1) r.set) := HOS2.out.stay fun b hb => HT3.out.block b (HOS2.out.lt b hb).2 fun hv => by
            have n := HND.out
            rw [HFP.out] at n
            exact (List.nodup_append.1 n).2.2 b hb b hv rfl
          have hT := OwnT.of (k := q + (p : Int)) hos3 HOK3.out (by rw [← HFP.out]; exact HND.out)
          rw [← HFP.out] at hT
          have tt : Touch fp ws w3 := (HT2.out.wide fun b hb => by rw [HFP.out]; simp [hb]).trans (HT3.out.wide fun b hb => by rw [HFP.out]; simp [hb])
          have hK := HS1.out.set_kid j HX1.out HX.out tt hT rfl
          rw [List.set_set] at hK
          have e1 := markL_get (q := q) HR.out
          rw [markN_of, ← HP.out] at e1
          rw [mix_step _ _ _ _ _ HR.out e1 HL.out] at hK
          exact hK
        · have tt : Touch fk ws w3 := (HT2.out.wide fun b hb => by rw [HFd.out]; exact List.mem_cons_of_mem _ (mem_fps.2 ⟨j, _, HX.out, by rw [HFP.out]; simp [hb]⟩)).trans (HT3.out.wide fun b hb => by rw [HFd.out]; exact List.mem_cons_of_mem _ (mem_fps.2 ⟨j, _, HX.out, by rw [HFP.out]; simp [hb]⟩))
          exact HT1.out.trans tt
      case measure => omega
    · obtain ⟨p, hp⟩ : ∃ p : Nat, p = cntL (ks.take j) := ⟨_, rfl⟩
      rw [← hp] at hle ⊢
      have HP := Lib.hid hp
      clear hp
      go_wp2
      go_ret
      have hj' : j = ks.length := by omega
      refine ⟨ret_int (by rw [HP.out, hj', List.take_length]), ?_, HT.out⟩
      have := HK.out
      rw [hj', List.drop_length, List.append_nil, List.take_of_length_le (by rw [markL_length]; exact Nat.le_refl _)] at this
      exact this

theorem markRexS_c (r : Rex) : MarkOk r.kids := by
  refine Rex.ind (p := fun r => MarkOk r.kids) (fun k s ks ih => ?_) r
  exact markRexS_of ks ih

set_option maxHeartbeats 2000000 in
theorem markRex_c (r : Rex) (v1 v2 : Value) (fp : List Nat) (q : Int) (w : World) (h : OwnT w fp r v1 v2) (h0 : 0 ≤ q) (h1 : q + r.cnt ≤ 1073741824) :
    Calls Try.prog 28 #[.agg #[.int .i64 r.kind, v1, v2], .int .i64 q] w fun e w' => e = .returned (.int .i64 (q + r.cnt)) ∧ OwnT w' fp (markT q r) v1 v2 ∧ Touch fp w w' := by
  obtain ⟨L, fk, hfp, hnd, hos, hok⟩ := h.parts
  obtain ⟨A, c, rfl, _⟩ := hos.sps
  obtain ⟨K, ck, rfl, _, _⟩ := own_row hok.hk
  have hcn := cnt_of r
  have hb1 : q + 2 * (r.set.length : Int) + cntL r.kids ≤ 1073741824 := by omega
  have hslen : r.set.length ≤ 1073741824 := by omega
  have hcn' : q + (r.cnt : Int) = q + 2 * (r.set.length : Int) + cntL r.kids := by omega
  rw [hcn']
  clear hcn hcn' h1
  obtain ⟨wa, hwa⟩ : ∃ x, x = w.alloc (.cells #[.int .i64 r.kind, .slice A r.set.length c, .slice K r.kids.length ck] TRx) := ⟨_, rfl⟩
  have hb : Below w.heap.size w wa := by rw [hwa]; exact below_alloc (Below.refl _ _) _
  have m0 : Blk wa w.heap.size #[.int .i64 r.kind, .slice A r.set.length c, .slice K r.kids.length ck] TRx := by rw [hwa]; exact blk_new w _ _
  replace hwa := hwa.symm
  have HLT := Lib.hid h.lt
  have HB := Lib.hid hb
  have M0 := Lib.hid m0
  have HOS := Lib.hid (hos.below hb)
  have HOK := Lib.hid (hok.under hb)
  have HFP := Lib.hid hfp
  have HND := Lib.hid hnd
  have HF0 : Hid (∀ b, b ∈ fk → b < w.heap.size) := hok.lt
  have HF1 : Hid (∀ b, b ∈ vblk (.slice A r.set.length c) → b < w.heap.size) := fun b hb => (hos.lt b hb).2
  have n1 : wa.cell? ⟨w.heap.size, 1, none⟩ = some (.slice A r.set.length c) := by rw [m0.cell]; rfl
  clear h hb m0 hos hok hfp hnd
  go_enter Try.func28, Try.ntmps28
  go_wp2_with fail
  clear hwa
  refine (markSpanS_c A c r.set _ _ HOS.out (by omega) (by omega) hslen).mono ?_
  rintro e w2 ⟨rfl, os2, g2⟩
  have T2 := Touch.of_grown g2
  have n2 : w2.cell? ⟨w.heap.size, 2, none⟩ = some (.slice K r.kids.length ck) := by
    rw [World.cell?_of_block (w := wa) (T2.block w.heap.size M0.out.lt fun hv => by have := HF1.out _ hv; omega), M0.out.cell]
    rfl
  have HT2 := Lib.hid T2
  have HOS2 := Lib.hid os2
  have HOK2 : Hid (OwnK w2 fk r.kids (.slice K r.kids.length ck) L) := HOK.out.stay fun b hb => T2.block b (HOK.out.lt b hb) fun hv => by
    have n := HND.out
    rw [HFP.out] at n
    exact (List.nodup_append.1 n).2.2 b hv b hb rfl
  clear T2 g2 os2 n1
  go_wp2_with fail
  refine (markRexS_c r fk K ck L _ _ HOK2.out (by omega) (by omega)).mono ?_
  rintro e w3 ⟨rfl, ok3, t3⟩
  have HOK3 := Lib.hid ok3
  have HT3 := Lib.hid t3
  clear n2 ok3 t3
  go_wp2
  go_ret
  refine ⟨rfl, ?_, ?_⟩
  · have hos3 : OwnSp w3 0 (.slice A r.set.length c) (markSps q r.set) := HOS2.out.stay fun b hb => HT3.out.block b (HOS2.out.lt b hb).2 fun hv => by
      have n := HND.out
      rw [HFP.out] at n
      exact (List.nodup_append.1 n).2.2 b hb b hv rfl
    have hT := OwnT.of (k := r.kind) hos3 HOK3.out (by rw [← HFP.out]; exact HND.out)
    rw [← HFP.out] at hT
    exact hT
  · exact (Touch.of_below HB.out).trans ((HT2.out.wide fun b hb => by rw [HFP.out]; simp [hb]).trans (HT3.out.wide fun b hb => by rw [HFP.out]; simp [hb]))

end Go.Proofs.Ytiaccimbkghofaa
