/- Texts joined for the claims: M2 Mem M3 Tr M4 LawRexRead Hd Args Bytes Rd W10. -/
import Derived.Test.YtlchipjckgaclaaDoorG12
import Derived.Test.YtlchipjckgaclaaDoorG6
import Derived.Test.YtlchipjckgaclaaDoorG7
import Derived.Deep.RegionHeld3
import Derived.Test.YtlchipjckgaclaaDoorG1
import Derived.Handed
import Derived.HandedShaped
import Derived.Shelf.Vars
import Derived.ProofKit
import Derived.OpenShut
import Derived.ShutString
import Derived.ChangeOld
import Derived.SizedLaws
import Derived.Deep.SlicePairs
import Derived.ChangeSlices
import Derived.Test.YtlchipjckgaclaaDoorG9
import Derived.Laws.Bits64
import Derived.Test.YtlchipjckgaclaaDoorG2
/- markRex, markRexS. -/
namespace Go.Proofs.YtlchipjckgaclaaDoor
set_option linter.unusedSimpArgs false
set_option linter.unusedVariables false
set_option maxRecDepth 100000
open Go.RowKit

theorem set_mk (k : Int) (s : List Sp) (ks : List Rex) : (Rex.mk k s ks).set = s := rfl
theorem kids_mk (k : Int) (s : List Sp) (ks : List Rex) : (Rex.mk k s ks).kids = ks := rfl
theorem kind_mk (k : Int) (s : List Sp) (ks : List Rex) : (Rex.mk k s ks).kind = k := rfl
def MarkOk (ks : List Rex) : Prop := ∀ (fk : List Nat) (K : Option Addr) (ck : Nat) (L : List KInfo) (q : Int) (w : World), OwnK w fk ks (.slice K ks.length ck) L → 0 ≤ q → q + cntL ks ≤ 1073741824 →
  Calls Tryd.prog 75 #[.slice K ks.length ck, .int .i64 q] w fun e w' => e = .returned (.int .i64 (q + cntL ks)) ∧ OwnK w' fk (markL q ks) (.slice K ks.length ck) L ∧ Touch fk w w'

theorem OwnK.len_le {w : World} {fk : List Nat} {ks : List Rex} {v2 : Value} {L : List KInfo} (h : OwnK w fk ks v2 L) : ks.length ≤ 9223372036854775807 := h.hn

set_option maxHeartbeats 4000000 in
theorem markRexS_of (ks : List Rex) (ih : ∀ r, r ∈ ks → MarkOk r.kids) : MarkOk ks := by
  intro fk K ck L q w h h0 h1
  have hlen := h.len_le
  have HO := Lib.hid h
  have HL := Lib.hid (markL_length ks q)
  clear h
  go_enter Tryd.func75, Tryd.ntmps75
  go_wp2
  go_loopg [1, 5] (ks.length) (fun n q' i wr => ∃ j : Nat, j + n = ks.length ∧ i = .int .i64 j ∧ q' = .int .i64 (q + cntL (ks.take j)) ∧ Hid (OwnK wr fk ((markL q ks).take j ++ ks.drop j) (.slice K ks.length ck) L) ∧ Hid (Touch fk w wr))
  case atStart => exact ⟨0, by omega, rfl, by simp [cntL], by simpa [Hid] using HO.out, Touch.refl _ _⟩
  case round =>
    obtain ⟨j, hj, rfl, rfl, HK, HT⟩ := hrel
    have hle := cntL_take_le ks j
    by_cases hlt : j < ks.length
    · have hr : ks[j]? = some ks[j] := List.getElem?_eq_getElem hlt
      obtain ⟨r, hr'⟩ : ∃ r, r = ks[j] := ⟨_, rfl⟩
      rw [← hr'] at hr
      clear hr'
      have hr2 := hr
      rw [← mix_get (markL q ks) ks j hlt HL.out] at hr2
      obtain ⟨g, _, _, _, _, _, rfl, _, _, c0, _, _, f0⟩ := HK.out.at_ j hr2
      have HR := Lib.hid hr
      have HR2 := Lib.hid hr2
      have hct := cntL_take hr
      have hcl := cntL_take_le ks (j + 1)
      have hcn := cnt_of r
      have hmem := List.mem_of_getElem? hr
      obtain ⟨p, hp⟩ : ∃ p : Nat, p = cntL (ks.take j) := ⟨_, rfl⟩
      rw [← hp] at hct hle ⊢
      have HP := Lib.hid hp
      have HCT := Lib.hid hct
      have HCN := Lib.hid hcn
      have hb1 : q + (p : Int) + 1 + 2 * (r.set.length : Int) + cntL r.kids ≤ 1073741824 := by omega
      clear hr hr2 hp hct hcn hcl hle
      -- the world behind the store of the kind
      obtain ⟨ws, hws⟩ : ∃ x, x = wr.setCell ⟨g, j * 3, none⟩ (.int .i64 (q + (p : Int))) := ⟨_, rfl⟩
      have hs1 := HK.out.set_kind j HR2.out (q + (p : Int))
      have ht1 := HT.out.set (p := ⟨g, j * 3, none⟩) (by rw [HK.out.fe]; simp [vblk_of_some]) (.int .i64 (q + (p : Int)))
      have hX1 : (((markL q ks).take j ++ ks.drop j).set j (.mk (q + (p : Int)) r.set r.kids))[j]? = some (.mk (q + (p : Int)) r.set r.kids) := by
        rw [List.getElem?_set, if_pos rfl, if_pos (by rw [mix_length _ _ _ HL.out (by omega)]; exact hlt)]
      rw [← hws] at hs1 ht1
      replace hws := hws.symm
      have HS1 := Lib.hid hs1
      have HT1 := Lib.hid ht1
      have HX1 := Lib.hid hX1
      clear hX1 hs1 ht1
      obtain ⟨g', A, c, K2, ck2, fp, eK, HX, HY, _, d1, d2, _⟩ := HS1.out.at_ j HX1.out
      injection eK with eK
      injection eK with eK
      subst eK
      simp only [set_mk, kids_mk] at HX HY d1 d2
      obtain ⟨L1, fk1, hfp, hnd, hos, hok⟩ := HY.out.parts
      simp only [set_mk, kids_mk] at hos hok
      have HFP := Lib.hid hfp
      have HND := Lib.hid hnd
      have HOS := Lib.hid hos
      have HOK := Lib.hid hok
      clear hfp hnd hos hok
      have hslen : r.set.length ≤ 1073741824 := by omega
      have HFd : Hid (fk = g :: fps L) := by have := HS1.out.fe; rw [vblk_of_some] at this; exact this
      have HGN : Hid (g ∉ fp) := fun hg => by
        have n := HS1.out.nd
        rw [HFd.out] at n
        exact (List.nodup_cons.1 n).1 (mem_fps.2 ⟨j, _, HX.out, hg⟩)
      go_wp2_with fail
      clear hws c0 f0
      refine (markSpanS_c A c r.set _ _ HOS.out (by omega) (by omega) hslen).mono ?_
      rintro e w2 ⟨rfl, os2, g2⟩
      have T2 := Touch.of_grown g2
      have HT2 := Lib.hid T2
      have HOS2 := Lib.hid os2
      have hgv : g ∉ vblk (.slice A r.set.length c) := fun hg => HGN.out (by rw [HFP.out]; simp [hg])
      have n2 : w2.cell? ⟨g, j * 3 + 2, none⟩ = some (.slice K2 r.kids.length ck2) := by
        rw [World.cell?_of_block (w := ws) (T2.block g (World.block_lt_of_cell? ws _ d2) hgv)]
        exact d2
      have HOK2 : Hid (OwnK w2 fk1 r.kids (.slice K2 r.kids.length ck2) L1) := HOK.out.stay fun b hb => T2.block b (HOK.out.lt b hb) fun hv => by
        have n := HND.out
        rw [HFP.out] at n
        exact (List.nodup_append.1 n).2.2 b hv b hb rfl
      clear T2 g2 os2 d1 d2 hgv
      go_wp2_with fail
      refine (ih r hmem fk1 K2 ck2 L1 _ _ HOK2.out (by omega) (by omega)).mono ?_
      rintro e w3 ⟨rfl, ok3, t3⟩
      have HOK3 := Lib.hid ok3
      have HT3 := Lib.hid t3
      clear n2 ok3 t3
      go_wp2
      go_roundg (gk - 1)
      case rel =>
        have hct := HCT.out
        have hcn := HCN.out
        have hpp := HP.out
        refine ⟨j + 1, by omega, by go_num, by rw [hct]; congr 1; omega, ?_, ?_⟩
        · -- the kid in its own blocks
          have hos3 : OwnSp w3 0 (.slice A r.set.length c) (markSps (q + (p : Int) + 1) r.set) := HOS2.out.stay fun b hb => HT3.out.block b (HOS2.out.lt b hb).2 fun hv => by
            have n := HND.out
            rw [HFP.out] at n
            exact (List.nodup_append.1 n).2.2 b hb b hv rfl
          have hT := OwnT.of (k := q + (p : Int)) hos3 HOK3.out (by rw [← HFP.out]; exact HND.out)
          rw [← HFP.out] at hT
          have tt : Touch fp ws w3 := (HT2.out.wide fun b hb => by rw [HFP.out]; simp [hb]).trans (HT3.out.wide fun b hb => by rw [HFP.out]; simp [hb])
          have hK := HS1.out.set_kid j HX1.out HX.out tt hT rfl
          rw [List.set_set] at hK
          have e1 := markL_get (q := q) HR.out
          rw [markN_of, ← HP.out] at e1
          rw [mix_step _ _ _ _ _ HR.out e1 HL.out] at hK
          exact hK
        · have tt : Touch fk ws w3 := (HT2.out.wide fun b hb => by rw [HFd.out]; exact List.mem_cons_of_mem _ (mem_fps.2 ⟨j, _, HX.out, by rw [HFP.out]; simp [hb]⟩)).trans (HT3.out.wide fun b hb => by rw [HFd.out]; exact List.mem_cons_of_mem _ (mem_fps.2 ⟨j, _, HX.out, by rw [HFP.out]; simp [hb]⟩))
          exact HT1.out.trans tt
      case measure => omega
    · obtain ⟨p, hp⟩ : ∃ p : Nat, p = cntL (ks.take j) := ⟨_, rfl⟩
      rw [← hp] at hle ⊢
      have HP := Lib.hid hp
      clear hp
      go_wp2
      go_ret
      have hj' : j = ks.length := by omega
      refine ⟨ret_int (by rw [HP.out, hj', List.take_length]), ?_, HT.out⟩
      have := HK.out
      rw [hj', List.drop_length, List.append_nil, List.take_of_length_le (by rw [markL_length]; exact Nat.le_refl _)] at this
      exact this

theorem markRexS_c (r : Rex) : MarkOk r.kids := by
  refine Rex.ind (p := fun r => MarkOk r.kids) (fun k s ks ih => ?_) r
  exact markRexS_of ks ih

set_option maxHeartbeats 2000000 in
theorem markRex_c (r : Rex) (v1 v2 : Value) (fp : List Nat) (q : Int) (w : World) (h : OwnT w fp r v1 v2) (h0 : 0 ≤ q) (h1 : q + r.cnt ≤ 1073741824) :
    Calls Tryd.prog 39 #[.agg #[.int .i64 r.kind, v1, v2], .int .i64 q] w fun e w' => e = .returned (.int .i64 (q + r.cnt)) ∧ OwnT w' fp (markT q r) v1 v2 ∧ Touch fp w w' := by
  obtain ⟨L, fk, hfp, hnd, hos, hok⟩ := h.parts
  obtain ⟨A, c, rfl, _⟩ := hos.sps
  obtain ⟨K, ck, rfl, _, _⟩ := own_row hok.hk
  have hcn := cnt_of r
  have hb1 : q + 2 * (r.set.length : Int) + cntL r.kids ≤ 1073741824 := by omega
  have hslen : r.set.length ≤ 1073741824 := by omega
  have hcn' : q + (r.cnt : Int) = q + 2 * (r.set.length : Int) + cntL r.kids := by omega
  rw [hcn']
  clear hcn hcn' h1
  obtain ⟨wa, hwa⟩ : ∃ x, x = w.alloc (.cells #[.int .i64 r.kind, .slice A r.set.length c, .slice K r.kids.length ck] TRx) := ⟨_, rfl⟩
  have hb : Below w.heap.size w wa := by rw [hwa]; exact below_alloc (Below.refl _ _) _
  have m0 : Blk wa w.heap.size #[.int .i64 r.kind, .slice A r.set.length c, .slice K r.kids.length ck] TRx := by rw [hwa]; exact blk_new w _ _
  replace hwa := hwa.symm
  have HLT := Lib.hid h.lt
  have HB := Lib.hid hb
  have M0 := Lib.hid m0
  have HOS := Lib.hid (hos.below hb)
  have HOK := Lib.hid (hok.under hb)
  have HFP := Lib.hid hfp
  have HND := Lib.hid hnd
  have HF0 : Hid (∀ b, b ∈ fk → b < w.heap.size) := hok.lt
  have HF1 : Hid (∀ b, b ∈ vblk (.slice A r.set.length c) → b < w.heap.size) := fun b hb => (hos.lt b hb).2
  have n1 : wa.cell? ⟨w.heap.size, 1, none⟩ = some (.slice A r.set.length c) := by rw [m0.cell]; rfl
  clear h hb m0 hos hok hfp hnd
  go_enter Tryd.func39, Tryd.ntmps39
  go_wp2_with fail
  clear hwa
  refine (markSpanS_c A c r.set _ _ HOS.out (by omega) (by omega) hslen).mono ?_
  rintro e w2 ⟨rfl, os2, g2⟩
  have T2 := Touch.of_grown g2
  have n2 : w2.cell? ⟨w.heap.size, 2, none⟩ = some (.slice K r.kids.length ck) := by
    rw [World.cell?_of_block (w := wa) (T2.block w.heap.size M0.out.lt fun hv => by have := HF1.out _ hv; omega), M0.out.cell]
    rfl
  have HT2 := Lib.hid T2
  have HOS2 := Lib.hid os2
  have HOK2 : Hid (OwnK w2 fk r.kids (.slice K r.kids.length ck) L) := HOK.out.stay fun b hb => T2.block b (HOK.out.lt b hb) fun hv => by
    have n := HND.out
    rw [HFP.out] at n
    exact (List.nodup_append.1 n).2.2 b hv b hb rfl
  clear T2 g2 os2 n1
  go_wp2_with fail
  refine (markRexS_c r fk K ck L _ _ HOK2.out (by omega) (by omega)).mono ?_
  rintro e w3 ⟨rfl, ok3, t3⟩
  have HOK3 := Lib.hid ok3
  have HT3 := Lib.hid t3
  clear n2 ok3 t3
  go_wp2
  go_ret
  refine ⟨rfl, ?_, ?_⟩
  · have hos3 : OwnSp w3 0 (.slice A r.set.length c) (markSps q r.set) := HOS2.out.stay fun b hb => HT3.out.block b (HOS2.out.lt b hb).2 fun hv => by
      have n := HND.out
      rw [HFP.out] at n
      exact (List.nodup_append.1 n).2.2 b hb b hv rfl
    have hT := OwnT.of (k := r.kind) hos3 HOK3.out (by rw [← HFP.out]; exact HND.out)
    rw [← HFP.out] at hT
    exact hT
  · exact (Touch.of_below HB.out).trans ((HT2.out.wide fun b hb => by rw [HFP.out]; simp [hb]).trans (HT3.out.wide fun b hb => by rw [HFP.out]; simp [hb]))

end Go.Proofs.YtlchipjckgaclaaDoor

/- Marks and holds of results in memory. -/
namespace Go.Proofs.YtlchipjckgaclaaDoor
set_option linter.unusedSimpArgs false
set_option linter.unusedVariables false
set_option maxRecDepth 100000
open Go.RowKit

theorem OwnSp.row {w : World} {base c : Nat} {A : Option Addr} {xs ys : List Sp} (h : OwnSp w base (.slice A xs.length c) ys) : Sps w base A c ys := by
  obtain ⟨A', c', e, s⟩ := h.sps
  injection e with e1 e2 e3
  subst e1 e3
  exact s
theorem OwnSp.moved {w w1 : World} {base : Nat} {v : Value} {xs : List Sp} (h : OwnSp w base v xs) (hm : ∀ k, v.ownBlock = some k → w1.heap[k]? = w.heap[k]?) : OwnSp w1 base v xs := ⟨own_move h.own hm, h.len⟩
theorem held2_c (A : Option Addr) (c : Nat) (xs : List Sp) (q : Int) (w : World) {base : Nat} (h : OwnSp w base (.slice A xs.length c) (markSps q xs)) (h0 : 0 ≤ q) (h1 : q ≤ 1073741824) (hx : xs.length ≤ 1073741824) :
    Calls Tryd.prog 29 #[.slice A xs.length c, .int .i64 q] w fun e w' => e = .returned (.int .i64 (q + 2 * (xs.length : Int))) ∧ Drawn w w' := by
  have := heldSpanS_c A c (markSps q xs) xs q w rfl h.row h0 h1 (by rw [markSps_length]; exact hx)
  rw [markSps_length] at this
  exact this
theorem spansOf_len (f : Nat → Bool) : (spansOf f).length ≤ 256 := spansTo_length f 256
theorem setJoin_len (xs ys : List Sp) : (setJoin xs ys).length ≤ 256 := by
  unfold setJoin; split
  · exact spansOf_len _
  · simp
theorem setMeet_len (xs ys : List Sp) : (setMeet xs ys).length ≤ 256 := by
  unfold setMeet; split
  · exact spansOf_len _
  · simp
theorem setNot_len (xs : List Sp) : (setNot xs).length ≤ 256 := by
  unfold setNot; split
  · exact spansOf_len _
  · simp

end Go.Proofs.YtlchipjckgaclaaDoor

/- heldRex, heldRexS. -/
namespace Go.Proofs.YtlchipjckgaclaaDoor
set_option linter.unusedSimpArgs false
set_option linter.unusedVariables false
set_option maxRecDepth 100000
open Go.RowKit

theorem markN_set (q : Int) (r : Rex) : (markN q r).set = markSps (q + 1) r.set := by rw [markN_of]; rfl
theorem markN_kids (q : Int) (r : Rex) : (markN q r).kids = markL (q + 1 + 2 * (r.set.length : Int)) r.kids := by rw [markN_of]; rfl
theorem markN_kind (q : Int) (r : Rex) : (markN q r).kind = q := by rw [markN_of]; rfl
def HeldOk (ks : List Rex) : Prop := ∀ (ms : List Rex) (K : Option Addr) (ck : Nat) (q : Int) (w : World) (lo : Nat), ms = markL q ks → Kids w lo K ck ms → 0 ≤ q → q + cntL ks ≤ 1073741824 →
  Calls Tryd.prog 76 #[.slice K ms.length ck, .int .i64 q] w fun e w' => e = .returned (.int .i64 (q + cntL ks)) ∧ Drawn w w'

set_option maxHeartbeats 4000000 in
theorem heldRexS_of (ks : List Rex) (ih : ∀ r, r ∈ ks → HeldOk r.kids) : HeldOk ks := by
  intro ms K ck q w lo hms h h0 h1
  have hlen := h.len
  unfold maxN at hlen
  have HMS := Lib.hid hms
  have HLN : Hid (ms.length = ks.length) := by rw [hms]; exact markL_length ks q
  have HK := Lib.hid h
  clear hms h
  go_enter Tryd.func76, Tryd.ntmps76
  go_wp2
  go_loopg [1, 5] (ms.length) (fun n q' i wr => ∃ j : Nat, j + n = ms.length ∧ i = .int .i64 j ∧ (∃ p : Nat, q' = .int .i64 (q + p) ∧ Hid (p = cntL (ks.take j))) ∧ Drawn w wr)
  case atStart => exact ⟨0, by omega, rfl, ⟨0, by simp, by simp [Hid, cntL]⟩, Drawn.refl _⟩
  case round =>
    obtain ⟨j, hj, rfl, ⟨p, rfl, HP⟩, m, rfl⟩ := hrel
    have hle := cntL_take_le ks j
    rw [← HP.out] at hle
    by_cases hlt : j < ms.length
    · have hlt' : j < ks.length := by have := HLN.out; omega
      obtain ⟨r, hr⟩ : ∃ r, ks[j]? = some r := ⟨ks[j], List.getElem?_eq_getElem hlt'⟩
      obtain ⟨a, x, v1, v2, rfl, HX, HD, HV, c0, c1, c2⟩ := HK.out.at_ j hlt
      have ex : x = markN (q + p) r := by
        have e := HX.out
        rw [HMS.out, markL_get hr, ← HP.out] at e
        exact (Option.some.inj e).symm
      subst ex
      obtain ⟨A, c, K', ck', _, rfl, rfl, sp, kd⟩ := HV.out.parts
      have hct := cntL_take hr
      have hcl := cntL_take_le ks (j + 1)
      have hcn := cnt_of r
      rw [← HP.out] at hct
      have hmem := List.mem_of_getElem? hr
      have HCT := Lib.hid hct
      have HCN := Lib.hid hcn
      have hb1 : q + (p : Int) + 1 + 2 * (r.set.length : Int) + cntL r.kids ≤ 1073741824 := by omega
      have hsl : r.set.length ≤ 1073741824 := by omega
      rw [markN_kind] at c0
      rw [markN_set] at c1 sp
      rw [markN_kids] at c2 kd
      rw [markSps_length] at c1
      have HSP := Lib.hid sp
      have HKD := Lib.hid kd
      clear hct hcl hcn hle hr sp kd HD HX HV
      go_wp2_with fail
      have hh := heldSpanS_c A c (markSps (q + p + 1) r.set) r.set (q + p + 1) (w.drewN m) rfl (HSP.out.below (below_drewN (Below.refl _ _) m)) (by omega) (by omega) (by rw [markSps_length]; exact hsl)
      rw [markSps_length] at hh
      refine hh.mono ?_
      clear hh
      rintro e w2 ⟨rfl, m2, rfl⟩
      have hq1 : ¬ (q + (p : Int) + 1 + 2 * (r.set.length : Int) < 0) := by omega
      go_wp2_with fail
      refine (ih r hmem _ K' ck' _ _ lo rfl (HKD.out.below (below_drewN (Below.refl _ _) _)) (by omega) (by omega)).mono ?_
      rintro e w3 ⟨rfl, m3, rfl⟩
      have hq2 : ¬ (q + (p : Int) + 1 + 2 * (r.set.length : Int) + (cntL r.kids : Int) < 0) := by omega
      clear c0 c1 c2
      go_wp2
      go_roundg (gk - 1)
      case rel =>
        have hct := HCT.out
        have hcn := HCN.out
        refine ⟨j + 1, by omega, by go_num, ⟨p + (1 + r.cnt), by congr 1; omega, hct.symm⟩, ?_⟩
        exact ⟨_, rfl⟩
      case measure => omega
    · go_wp2
      go_ret
      have hj' : j = ks.length := by have := HLN.out; omega
      exact ⟨ret_int (by rw [HP.out, hj', List.take_length]), _, rfl⟩

theorem heldRexS_c (r : Rex) : HeldOk r.kids := by
  refine Rex.ind (p := fun r => HeldOk r.kids) (fun k s ks ih => ?_) r
  exact heldRexS_of ks ih

set_option maxHeartbeats 2000000 in
theorem heldRex_c (r : Rex) (v1 v2 : Value) (q : Int) (w : World) (lo : Nat) (h : RexV w lo (markT q r) (.int .i64 r.kind) v1 v2) (h0 : 0 ≤ q) (h1 : q + r.cnt ≤ 1073741824) :
    Calls Tryd.prog 40 #[.agg #[.int .i64 r.kind, v1, v2], .int .i64 q] w fun e w' => e = .returned (.int .i64 (q + r.cnt)) ∧ Below w.heap.size w w' := by
  obtain ⟨A, c, K, ck, _, rfl, rfl, sp, kd⟩ := h.parts
  simp only [markT, set_mk, kids_mk, markSps_length, markL_length] at sp kd ⊢
  have hcn := cnt_of r
  have hb1 : q + 2 * (r.set.length : Int) + cntL r.kids ≤ 1073741824 := by omega
  have hslen : r.set.length ≤ 1073741824 := by omega
  have hcn' : q + (r.cnt : Int) = q + 2 * (r.set.length : Int) + cntL r.kids := by omega
  rw [hcn']
  clear hcn hcn' h1 h
  obtain ⟨wa, hwa⟩ : ∃ x, x = w.alloc (.cells #[.int .i64 r.kind, .slice A r.set.length c, .slice K r.kids.length ck] TRx) := ⟨_, rfl⟩
  have hb : Below w.heap.size w wa := by rw [hwa]; exact below_alloc (Below.refl _ _) _
  have m0 : Blk wa w.heap.size #[.int .i64 r.kind, .slice A r.set.length c, .slice K r.kids.length ck] TRx := by rw [hwa]; exact blk_new w _ _
  replace hwa := hwa.symm
  have HB := Lib.hid hb
  have M0 := Lib.hid m0
  have HSP := Lib.hid (sp.below hb)
  have HKD := Lib.hid (kd.below hb)
  have n1 : wa.cell? ⟨w.heap.size, 1, none⟩ = some (.slice A r.set.length c) := by rw [m0.cell]; rfl
  clear hb m0 sp kd
  go_enter Tryd.func40, Tryd.ntmps40
  go_wp2_with fail
  clear hwa
  have hh := heldSpanS_c A c (markSps q r.set) r.set q wa rfl HSP.out (by omega) (by omega) (by rw [markSps_length]; exact hslen)
  rw [markSps_length] at hh
  refine hh.mono ?_
  clear hh
  rintro e w2 ⟨rfl, d2⟩
  have B2 := Lib.hid d2.below
  have n2 : w2.cell? ⟨w.heap.size, 2, none⟩ = some (.slice K r.kids.length ck) := by rw [(M0.out.below d2.below).cell]; rfl
  have hq1 : ¬ (q + 2 * (r.set.length : Int) < 0) := by omega
  clear n1 d2
  go_wp2_with fail
  have hh := heldRexS_c r _ K ck _ w2 lo rfl (HKD.out.below B2.out) (by omega) (by omega)
  rw [markL_length] at hh
  refine hh.mono ?_
  clear hh
  rintro e w3 ⟨rfl, d3⟩
  have hq2 : ¬ (q + 2 * (r.set.length : Int) + (cntL r.kids : Int) < 0) := by omega
  have B3 := Lib.hid (below_then HB.out (below_then B2.out d3.below))
  clear n2 d3
  go_wp2
  go_ret
  exact ⟨rfl, B3.out⟩

end Go.Proofs.YtlchipjckgaclaaDoor

/- The contracts of the laws' functions on trees, bare. -/
namespace Go.Proofs.YtlchipjckgaclaaDoor
set_option linter.unusedSimpArgs false
set_option linter.unusedVariables false
set_option maxRecDepth 100000
open Go.RowKit

theorem toRex_r (r : Rex) (v1 v2 : Value) (w : World) (lo : Nat) (h : RexV w lo r (.int .i64 r.kind) v1 v2) (hx : r.size ≤ 1048576) :
    Calls Tryd.prog 16 #[.agg #[.int .i64 r.kind, v1, v2]] w fun e w' => ∃ u1 u2, e = .returned (.agg #[.int .i64 r.kind, u1, u2]) ∧ RexV w' w.heap.size r (.int .i64 r.kind) u1 u2 ∧ Below w.heap.size w w' := toRex_v r v1 v2 w lo h hx
theorem eqRex_r (r r' : Rex) (v1 v2 u1 u2 : Value) (w : World) (lo lo' : Nat) (h : RexV w lo r (.int .i64 r.kind) v1 v2) (h' : RexV w lo' r' (.int .i64 r'.kind) u1 u2) :
    Calls Tryd.prog 18 #[.agg #[.int .i64 r.kind, v1, v2], .agg #[.int .i64 r'.kind, u1, u2]] w fun e w' => e = .returned (.bool (rexEq r r')) ∧ Below w.heap.size w w' := eqRex_c r r' v1 v2 u1 u2 w lo lo' h h'

end Go.Proofs.YtlchipjckgaclaaDoor

/- Blocks and worlds behind marks; how many numbers a tree holds. -/
namespace Go.Proofs.YtlchipjckgaclaaDoor
set_option linter.unusedSimpArgs false
set_option linter.unusedVariables false
set_option maxRecDepth 100000
open Go.RowKit

theorem Blk.touch {w w' : World} {g : Nat} {cs : Array Value} {t : TypeId} {fp : List Nat} (h : Blk w g cs t) (ht : Touch fp w w') (hn : g ∉ fp) : Blk w' g cs t := ⟨(ht.block g h.lt hn).trans h.eq⟩
theorem below_touch {w w1 w' : World} {fp : List Nat} (h : Below w.heap.size w w1) (ht : Touch fp w1 w') (hf : ∀ b, b ∈ fp → w.heap.size ≤ b) : Below w.heap.size w w' := h.trans (ht.below hf h.size)
theorem cnt_size (r : Rex) : r.cnt ≤ 2 * r.size := by
  refine Rex.rec (motive_1 := fun r => r.cnt ≤ 2 * r.size) (motive_2 := fun l => cntL l ≤ 2 * sizeL l + l.length) ?_ ?_ ?_ r
  · intro k s ks ih
    rw [Rex.cnt, Rex.size]
    omega
  · simp [cntL]
  · intro x xs h1 h2
    rw [cntL, sizeL, List.length_cons]
    omega

end Go.Proofs.YtlchipjckgaclaaDoor

/- The law FnExactRexRead: the program's RexRead tells what the reference's tells, in memory of its own. -/
namespace Go.Proofs.YtlchipjckgaclaaDoor
set_option linter.unusedSimpArgs false
set_option linter.unusedVariables false
set_option maxRecDepth 100000
open Go.RowKit

theorem formed_size (r : Rex) : ∀ d, formed d r = true → r.size + 1 ≤ 130 * r.many := by
  refine Rex.ind (p := fun r => ∀ d, formed d r = true → r.size + 1 ≤ 130 * r.many) (fun k s ks ih => ?_) r
  intro d hd
  obtain ⟨hk, hs, hok, _, hfk⟩ := formed_node hd
  have hL : ∀ l : List Rex, (∀ r ∈ l, r ∈ ks) → l.length + sizeL l ≤ 130 * manyL l := by
    intro l
    induction l with
    | nil => intro _; simp [sizeL, manyL]
    | cons x l ihl =>
      intro hl
      have h1 := ih x (hl x (by simp)) (d - 1) (hfk x (hl x (by simp)))
      have h2 := ihl (fun r hr => hl r (by simp [hr]))
      rw [sizeL, manyL, List.length_cons]
      omega
  have h1 := hL ks (fun r hr => hr)
  have h2 := ok_len128 hok
  rw [Rex.size, Rex.many]
  omega
theorem got_size {t : List UInt8} : ((readRex t).getD noR).size ≤ 4000 := by
  cases h : readRex t with
  | none => show (Rex.mk 0 [] []).size ≤ _; simp [Rex.size, sizeL]
  | some r =>
    have h1 := (readRex_sound h).1
    rw [rexOk, Bool.and_eq_true] at h1
    have h2 := formed_size r 8 h1.1
    have h3 : r.many ≤ 24 := by simpa using h1.2
    show r.size ≤ _
    omega

set_option maxRecDepth 100000 in
set_option maxHeartbeats 8000000 in
theorem exRexRead_c (t : ByteArray) (w : World) (hp : Pow10 w) (hm : MaxL w) :
    Calls Tryd.prog 8 #[.string t] w fun e w' => e = .returned (.bool true) ∧ Below w.heap.size w w' := by
  have HP := Lib.hid hp
  have HM := Lib.hid hm
  clear hp hm
  go_enter Tryd.func8, Tryd.ntmps8
  by_cases hbig : 1048576 < t.size
  · have d0 : (1048576 : Int) < (t.size : Int) := by omega
    go_wp2_with fail
    go_ret
    exact ⟨rfl, Below.refl _ _⟩
  have d0 : ¬ (1048576 : Int) < (t.size : Int) := by omega
  have hs : t.size ≤ 1048576 := by omega
  clear hbig
  go_wp2_with fail
  clear d0
  refine (sRexRead_c t w hs).mono ?_
  rintro e w1 ⟨A1, c1, K1, k1, fpW, rfl, ho, hn, hf, b1⟩
  have hsz := got_size (t := t.data.toList)
  obtain ⟨T, hT⟩ : ∃ T, T = (readRex t.data.toList).getD noR := ⟨_, rfl⟩
  obtain ⟨ok, hok⟩ : ∃ b, b = (readRex t.data.toList).isSome := ⟨_, rfl⟩
  rw [← hT] at ho hsz ⊢
  rw [← hok]
  have iread : ∀ wx : World, Below w.heap.size w wx → Calls Tryd.prog 38 #[.string t] wx fun e w' => ∃ A c K ck fp, e = .returned (.tuple #[.agg #[.int .i64 T.kind, .slice A T.set.length c, .slice K T.kids.length ck], .bool ok]) ∧ OwnT w' fp T (.slice A T.set.length c) (.slice K T.kids.length ck) ∧ fp.Nodup ∧ (∀ b, b ∈ fp → wx.heap.size ≤ b) ∧ Below wx.heap.size wx w' := fun wx hb => by
    rw [hT, hok]
    exact iRexRead_c t wx hs (HP.out.below hb) (HM.out.below hb)
  have HI := Lib.hid iread
  have OW := Lib.hid ho
  have FW : Hid (∀ b, b ∈ fpW → w.heap.size ≤ b ∧ b < w1.heap.size) := fun b hb => ⟨hf b hb, ho.lt b hb⟩
  have B1 := Lib.hid b1
  have hcT : T.cnt ≤ 8000 := by have := cnt_size T; omega
  clear hT hok iread ho hn hf b1
  obtain ⟨wb1, hwb⟩ : ∃ x, x = w1.alloc (.cells #[.int .i64 T.kind, .slice A1 T.set.length c1, .slice K1 T.kids.length k1] TRx) := ⟨_, rfl⟩
  have bb : Below w1.heap.size w1 wb1 := by rw [hwb]; exact below_alloc (Below.refl _ _) _
  have x0 : Blk wb1 w1.heap.size #[.int .i64 T.kind, .slice A1 T.set.length c1, .slice K1 T.kids.length k1] TRx := by rw [hwb]; exact blk_new _ _ _
  have XW := Lib.hid x0
  have GW : Hid (w1.heap.size < wb1.heap.size) := x0.lt
  have hw0 : w.heap.size ≤ w1.heap.size := B1.out.size
  replace OW := Lib.hid (OW.out.under bb)
  have B2 := Lib.hid (below_then B1.out bb)
  clear x0 bb B1
  replace hwb := hwb.symm
  go_wp2_with fail
  clear hwb
  refine (HI.out wb1 B2.out).mono ?_
  rintro e w2 ⟨A2, c2, K2, k2, fpG, rfl, ho, hn, hf, b2⟩
  have OG := Lib.hid ho
  have FG : Hid (∀ b, b ∈ fpG → w1.heap.size < b ∧ b < w2.heap.size) := fun b hb => ⟨Nat.lt_of_lt_of_le GW.out (hf b hb), ho.lt b hb⟩
  replace OW := Lib.hid (OW.out.under b2)
  replace XW := Lib.hid (XW.out.below b2)
  have B3 := Lib.hid (below_then B2.out b2)
  have hw1 : w1.heap.size < w2.heap.size := Nat.lt_of_lt_of_le GW.out b2.size
  clear ho hn hf b2 B2 GW
  obtain ⟨wb2, hwb⟩ : ∃ x, x = w2.alloc (.cells #[.int .i64 T.kind, .slice A2 T.set.length c2, .slice K2 T.kids.length k2] TRx) := ⟨_, rfl⟩
  have bb : Below w2.heap.size w2 wb2 := by rw [hwb]; exact below_alloc (Below.refl _ _) _
  have x0 : Blk wb2 w2.heap.size #[.int .i64 T.kind, .slice A2 T.set.length c2, .slice K2 T.kids.length k2] TRx := by rw [hwb]; exact blk_new _ _ _
  have XG := Lib.hid x0
  replace OW := Lib.hid (OW.out.under bb)
  replace OG := Lib.hid (OG.out.under bb)
  replace XW := Lib.hid (XW.out.below bb)
  have B4 := Lib.hid (below_then B3.out bb)
  clear x0 bb B3
  replace hwb := hwb.symm
  have nwa : wb2.cell? ⟨w1.heap.size, 0, none⟩ = some (.int .i64 T.kind) := by rw [XW.out.cell]; rfl
  have nwb : wb2.cell? ⟨w1.heap.size, 1, none⟩ = some (.slice A1 T.set.length c1) := by rw [XW.out.cell]; rfl
  have nwc : wb2.cell? ⟨w1.heap.size, 2, none⟩ = some (.slice K1 T.kids.length k1) := by rw [XW.out.cell]; rfl
  have nga : wb2.cell? ⟨w2.heap.size, 0, none⟩ = some (.int .i64 T.kind) := by rw [XG.out.cell]; rfl
  have ngb : wb2.cell? ⟨w2.heap.size, 1, none⟩ = some (.slice A2 T.set.length c2) := by rw [XG.out.cell]; rfl
  have ngc : wb2.cell? ⟨w2.heap.size, 2, none⟩ = some (.slice K2 T.kids.length k2) := by rw [XG.out.cell]; rfl
  go_wp2_with fail
  clear hwb
  refine (eqRex_r T T _ _ _ _ wb2 _ _ OG.out.rex0 OW.out.rex0).mono ?_
  rintro e w3 ⟨rfl, b3⟩
  rw [(rexEq_iff T T).2 rfl]
  replace OW := Lib.hid (OW.out.under (b3))
  replace XW := Lib.hid (XW.out.below (b3))
  replace OG := Lib.hid (OG.out.under (b3))
  replace XG := Lib.hid (XG.out.below (b3))
  have B5 := Lib.hid (below_then B4.out (b3))
  clear B4
  clear nwa nwb nwc nga ngb ngc b3
  have nga : w3.cell? ⟨w2.heap.size, 0, none⟩ = some (.int .i64 T.kind) := by rw [XG.out.cell]; rfl
  have ngb : w3.cell? ⟨w2.heap.size, 1, none⟩ = some (.slice A2 T.set.length c2) := by rw [XG.out.cell]; rfl
  have ngc : w3.cell? ⟨w2.heap.size, 2, none⟩ = some (.slice K2 T.kids.length k2) := by rw [XG.out.cell]; rfl
  go_wp2_with fail
  refine (markRex_c T _ _ fpG 1 w3 OG.out (by omega) (by omega)).mono ?_
  rintro e w4 ⟨rfl, og, t4⟩
  replace XG := Lib.hid (XG.out.touch t4 fun h => by have := FG.out _ h; omega)
  replace XW := Lib.hid (XW.out.touch t4 fun h => by have := FG.out _ h; omega)
  replace OW := Lib.hid (OW.out.stay fun b hb => t4.block b (OW.out.lt b hb) fun h => by have h1 := FG.out _ h; have h2 := FW.out _ hb; omega)
  have B6 := Lib.hid (below_touch B5.out t4 fun b hb => by have := FG.out _ hb; omega)
  replace OG := Lib.hid og
  clear nga ngb ngc t4 og B5
  have nga : w4.cell? ⟨w2.heap.size, 0, none⟩ = some (.int .i64 T.kind) := by rw [XG.out.cell]; rfl
  have ngb : w4.cell? ⟨w2.heap.size, 1, none⟩ = some (.slice A2 T.set.length c2) := by rw [XG.out.cell]; rfl
  have ngc : w4.cell? ⟨w2.heap.size, 2, none⟩ = some (.slice K2 T.kids.length k2) := by rw [XG.out.cell]; rfl
  go_wp2_with fail
  refine (heldRex_c T _ _ 1 w4 0 OG.out.rex0 (by omega) (by omega)).mono ?_
  rintro e w5 ⟨rfl, b5⟩
  have hq8 : ¬ (1 + (T.cnt : Int) < 0) := by omega
  replace OW := Lib.hid (OW.out.under (b5))
  replace XW := Lib.hid (XW.out.below (b5))
  replace OG := Lib.hid (OG.out.under (b5))
  replace XG := Lib.hid (XG.out.below (b5))
  have B7 := Lib.hid (below_then B6.out (b5))
  clear B6
  clear nga ngb ngc b5
  go_wp2_with fail
  refine (HI.out w5 B7.out).mono ?_
  rintro e w6 ⟨A6, c6, K6, k6, fpH, rfl, ho, hn, hf, b6⟩
  have OH := Lib.hid ho.rex0
  clear ho hn hf
  replace OW := Lib.hid (OW.out.under (b6))
  replace XW := Lib.hid (XW.out.below (b6))
  replace OG := Lib.hid (OG.out.under (b6))
  replace XG := Lib.hid (XG.out.below (b6))
  have B8 := Lib.hid (below_then B7.out (b6))
  clear B7
  clear b6
  obtain ⟨wb6, hwb⟩ : ∃ x, x = w6.alloc (.cells #[.int .i64 T.kind, .slice A6 T.set.length c6, .slice K6 T.kids.length k6] TRx) := ⟨_, rfl⟩
  have bb : Below w6.heap.size w6 wb6 := by rw [hwb]; exact below_alloc (Below.refl _ _) _
  have x0 : Blk wb6 w6.heap.size #[.int .i64 T.kind, .slice A6 T.set.length c6, .slice K6 T.kids.length k6] TRx := by rw [hwb]; exact blk_new _ _ _
  have XH := Lib.hid x0
  replace OH := Lib.hid (OH.out.under bb)
  replace OW := Lib.hid (OW.out.under (bb))
  replace XW := Lib.hid (XW.out.below (bb))
  replace OG := Lib.hid (OG.out.under (bb))
  replace XG := Lib.hid (XG.out.below (bb))
  have B9 := Lib.hid (below_then B8.out (bb))
  clear B8
  clear x0 bb
  replace hwb := hwb.symm
  have nha : wb6.cell? ⟨w6.heap.size, 0, none⟩ = some (.int .i64 T.kind) := by rw [XH.out.cell]; rfl
  have nhb : wb6.cell? ⟨w6.heap.size, 1, none⟩ = some (.slice A6 T.set.length c6) := by rw [XH.out.cell]; rfl
  have nhc : wb6.cell? ⟨w6.heap.size, 2, none⟩ = some (.slice K6 T.kids.length k6) := by rw [XH.out.cell]; rfl
  have nwa : wb6.cell? ⟨w1.heap.size, 0, none⟩ = some (.int .i64 T.kind) := by rw [XW.out.cell]; rfl
  have nwb : wb6.cell? ⟨w1.heap.size, 1, none⟩ = some (.slice A1 T.set.length c1) := by rw [XW.out.cell]; rfl
  have nwc : wb6.cell? ⟨w1.heap.size, 2, none⟩ = some (.slice K1 T.kids.length k1) := by rw [XW.out.cell]; rfl
  go_wp2_with fail
  clear hwb
  refine (eqRex_r T T _ _ _ _ wb6 _ _ OH.out OW.out.rex0).mono ?_
  rintro e w7 ⟨rfl, b7⟩
  rw [(rexEq_iff T T).2 rfl]
  replace OW := Lib.hid (OW.out.under (b7))
  replace XW := Lib.hid (XW.out.below (b7))
  replace OG := Lib.hid (OG.out.under (b7))
  replace XG := Lib.hid (XG.out.below (b7))
  have B10 := Lib.hid (below_then B9.out (b7))
  clear B9
  clear nwa nwb nwc nha nhb nhc OH XH b7
  have nga : w7.cell? ⟨w2.heap.size, 0, none⟩ = some (.int .i64 T.kind) := by rw [XG.out.cell]; rfl
  have ngb : w7.cell? ⟨w2.heap.size, 1, none⟩ = some (.slice A2 T.set.length c2) := by rw [XG.out.cell]; rfl
  have ngc : w7.cell? ⟨w2.heap.size, 2, none⟩ = some (.slice K2 T.kids.length k2) := by rw [XG.out.cell]; rfl
  go_wp2_with fail
  refine (heldRex_c T _ _ 1 w7 0 OG.out.rex0 (by omega) (by omega)).mono ?_
  rintro e w8 ⟨rfl, b8⟩
  have B11 := Lib.hid (below_then B10.out b8)
  clear nga ngb ngc b8
  go_wp2
  go_ret
  exact ⟨rfl, B11.out⟩

end Go.Proofs.YtlchipjckgaclaaDoor

/- The wrap of a row with listed variables that keeps the world's shape; what the shape says of the library's own variable. -/
namespace Go.Proofs.YtlchipjckgaclaaDoor
set_option linter.unusedSimpArgs false
set_option linter.unusedVariables false
set_option maxRecDepth 100000
open Go

section
variable {H : Type} {enc : TypeId × Value → H}
theorem handed_shaped {a : Assume} {C : Checked} {os : Os} {f : FuncId} {fn : Func} {s : ChangeSpec} {conds : List PathCond} {apart fresh handsOn again : Bool} {X : World → Array Value → Prop}
    (hX : ∀ (w w' : World) (args : Array Value), w.heap = w'.heap → X w args → X w' args)
    (own : ownKnob C.prog.godebug = none) (started : os.Started) (noInit : C.prog.inits.idxOf? f = none) (hfn : C.prog.funcs[f]? = some fn)
    (witness : ∃ (w : World) (tape : Tape) (i : Input), w.os = os ∧ (w.forCall tape i).Shaped C.prog ∧ i.vars = [] ∧ Input.okWide C.prog (w.forCall tape i) .any w.heap.size f i ∧
      ((s.pre enc C.prog fn conds apart (w.forCall tape i).memory i.args ∧ X (w.forCall tape i).memory i.args) ∧ sizedMet enc C.prog fn (OpenSpec.ofChange s) apart (w.forCall tape i).memory i.args) ∧ a.holds C.prog (lone (Frame.enter C.prog f i.args .normal) [] (w.forCall tape i)))
    (contract : ∀ (W : World) (base : Nat) (args : Array Value) (ds gs : List (DataW H)) (before : List MemPlace),
      (∀ (j : Nat) t v, fn.params[j]? = some t → args[j]? = some v → Value.okWide C.prog W .any base t v) →
      DataW.Whole enc C.prog fn.params.toList s.vars apart W args.toList ds gs before →
      X W args → W.ShapedOpen C.prog →
      Calls C.prog f args W fun e W' => ∃ v, e = .returned v ∧ s.post enc C.prog fn apart fresh handsOn again W args v W') :
    ReturnsInHanded a C os f .any (fun w args => (s.pre enc C.prog fn conds apart w args ∧ X w args) ∧ sizedMet enc C.prog fn (OpenSpec.ofChange s) apart w args) (s.post enc C.prog fn apart fresh handsOn again) := by
  refine returnsInHanded_of_calls own started noInit witness ?_
  intro w tape i _ hsh _ hok hpre _
  obtain ⟨_, _, _, fn', hfn', _, _, _, _, hval⟩ := hok
  obtain rfl : fn' = fn := Option.some.inj (hfn'.symm.trans hfn)
  obtain ⟨⟨⟨ds, gs, before, hw, _⟩, hx⟩, _⟩ := hpre
  refine (contract (w.forCall tape i) w.heap.size i.args ds gs before hval (DataW.Whole.of_heap (w' := w.forCall tape i) (by rfl) hw) (hX _ _ _ (by rfl) hx) hsh).mono fun e W' ⟨v, he, hp⟩ => ?_
  subst he
  exact ChangeSpec.post_blind hp
end
theorem maxL_of {w : World} (h : w.ShapedOpen Tryd.prog) : ∃ m : Int, w.cell? ⟨0, 0, none⟩ = some (.int .i64 m) :=
  Go.Proofs.cell_of_shapedOpen_int (t := 3) (zero := #[.int .i64 0]) h (by decide +kernel) (by kernel_rfl) rfl (by kernel_rfl) (by kernel_rfl) Tryd.underlying3

end Go.Proofs.YtlchipjckgaclaaDoor

/- The laws' arguments, out of the form's reading: a list of spans. -/
namespace Go.Proofs.YtlchipjckgaclaaDoor
set_option linter.unusedSimpArgs false
set_option linter.unusedVariables false
set_option maxRecDepth 100000
open Go.RowKit Go.ChangeShapes Go.WideShapes

theorem own_knob : ownKnob Tryd.prog.godebug = none := by kernel_rfl
theorem laid_out : laidOutB Tryd.prog = true := by kernel_rfl

theorem cellsAt_spans {w : World} {a : Addr} {xs : List Sp} (h : ∀ i, i < xs.length → w.cell? (a.add (i * 2)) = some (.int .i64 (xs.getD i default).lo) ∧ w.cell? (a.add (i * 2 + 1)) = some (.int .i64 (xs.getD i default).hi)) : CellsAt w a (spcs xs) := by
  intro j u hj
  have hlt : j < xs.length * 2 := by
    rw [← spcs_length]
    exact (List.getElem?_eq_some_iff.1 hj).1
  have hg := spcs_get xs (j / 2) (by omega)
  have hc := h (j / 2) (by omega)
  rcases Nat.mod_two_eq_zero_or_one j with e | e
  · have ej : j / 2 * 2 = j := by omega
    rw [ej] at hg hc
    rw [hg.1] at hj
    rw [hc.1, hj]
  · have ej : j / 2 * 2 + 1 = j := by omega
    rw [ej] at hg hc
    rw [hg.2] at hj
    rw [hc.2, hj]

/-- a slice of the laws' spans, read -/
theorem open_spans {H : Type} {enc : TypeId × Value → H} {w : World} {spare : Nat → Bool} {held : Bool} {fuel : Nat} {cs : List Value} {x : DataW H × List MemPlace}
    (h : DataW.trod enc Tryd.prog w 0 spare held fuel 22 cs = some x) : ∃ A c xs, cs = [.slice A (List.length xs) c] ∧ Sps w 0 A c xs := by
  rcases Go.Deep.open_slice_pairs Tryd.underlying22 Tryd.underlying62 (by kernel_rfl) rfl rfl (by kernel_rfl) (by kernel_rfl) h with ⟨rfl, _⟩ | ⟨a, len, cap, m, n, V0, V1, D0, D1, P0, P1, rfl, _, hl, hm, hmm, _, hx⟩
  · exact ⟨none, 0, [], rfl, .inl rfl, Nat.le_refl _, by simp⟩
  · have hlm : len ≤ m := by rw [hmm]; split <;> omega
    have g : ∀ i, i < len → ∃ p : Sp, w.cell? (a.add (i * 2)) = some (.int .i64 p.lo) ∧ w.cell? (a.add (i * 2 + 1)) = some (.int .i64 p.hi) := by
      intro i hi
      obtain ⟨h0, h1, t0, t1⟩ := hx i (by omega)
      obtain ⟨n0, e0, _⟩ := DataW.trod_int Tryd.underlying3 t0
      obtain ⟨n1, e1, _⟩ := DataW.trod_int Tryd.underlying3 t1
      rw [List.cons.injEq] at e0 e1
      exact ⟨⟨n0, n1⟩, by rw [h0, e0.1], by rw [h1, e1.1]⟩
    obtain ⟨f, hf⟩ := Go.Deep.choose_lt (α := Sp) g
    refine ⟨some a, cap, (List.range len).map f, by rw [List.length_map, List.length_range], ?_, by rw [List.length_map, List.length_range]; exact hl, by rw [List.length_map, List.length_range]; unfold maxLen at hm; unfold maxN; omega⟩
    rcases Nat.eq_zero_or_pos len with h0 | hpos
    · subst h0
      exact .inl rfl
    · refine .inr ⟨a, rfl, Nat.zero_le _, cellsAt_spans fun i hi => ?_⟩
      have hi' : i < len := by simpa using hi
      have e : ((List.range len).map f).getD i default = f i := by simp [List.getD_eq_getElem?_getD, hi']
      rw [e]
      exact hf i hi'

end Go.Proofs.YtlchipjckgaclaaDoor

/- The laws' arguments: a list of bytes. -/
namespace Go.Proofs.YtlchipjckgaclaaDoor
set_option linter.unusedSimpArgs false
set_option linter.unusedVariables false
set_option maxRecDepth 100000
open Go.RowKit Go.ChangeShapes Go.WideShapes

/-- bytes that lie in a row -/
structure Bys (w : World) (lo : Nat) (A : Option Addr) (c : Nat) (bs : List Int) : Prop where
  row : Row w lo A (bs.map fun z => .int .u8 z)
  cap : bs.length ≤ c
  len : bs.length ≤ maxN
  byte : ∀ z ∈ bs, 0 ≤ z ∧ z < 256
theorem Bys.below {w w' : World} {lo : Nat} {A : Option Addr} {c : Nat} {bs : List Int} (h : Bys w lo A c bs) (hb : Below w.heap.size w w') : Bys w' lo A c bs := ⟨h.row.below hb, h.cap, h.len, h.byte⟩
theorem open_bytes {H : Type} {enc : TypeId × Value → H} {w : World} {spare : Nat → Bool} {held : Bool} {fuel : Nat} {cs : List Value} {x : DataW H × List MemPlace}
    (h : DataW.trod enc Tryd.prog w 0 spare held fuel 40 cs = some x) : ∃ A c bs, cs = [.slice A (List.length bs) c] ∧ Bys w 0 A c bs := by
  rcases open_ints Tryd.underlying40 Tryd.underlying5 (by kernel_rfl) h with ⟨rfl, _⟩ | ⟨a, len, cap, zs, rfl, _, hl, hm, hz, _, hx, hw⟩
  · exact ⟨none, 0, [], rfl, .inl rfl, Nat.le_refl _, by simp, fun z hz => by cases hz⟩
  · have hlz : len ≤ zs.length := by rw [hz]; split <;> omega
    have e : (zs.take len).length = len := by rw [List.length_take]; omega
    refine ⟨some a, cap, zs.take len, by rw [e], .inr ⟨a, rfl, Nat.zero_le _, ?_⟩, by rw [e]; exact hl, by rw [e]; unfold maxLen at hm; unfold maxN; omega, ?_⟩
    · intro j u hj
      rw [List.getElem?_map, Option.map_eq_some_iff] at hj
      obtain ⟨z, hz1, rfl⟩ := hj
      have hjl : j < len := by rw [← e]; exact (List.getElem?_eq_some_iff.1 hz1).1
      rw [List.getElem?_take, if_pos hjl] at hz1
      rw [hx j (by omega), List.getD_eq_getElem?_getD, hz1]
      rfl
    · intro z hz
      have := bounds_u8 (hw z (List.mem_of_mem_take hz))
      omega

end Go.Proofs.YtlchipjckgaclaaDoor

/- The reader of a code: pick, num, l15Open. -/
namespace Go.Proofs.YtlchipjckgaclaaDoor
set_option linter.unusedSimpArgs false
set_option linter.unusedVariables false
set_option maxRecDepth 100000
open Go.RowKit

abbrev TRd : Nat := 106
structure Rd (w : World) (g : Nat) (p : Nat) : Prop where
  ex : ∃ (A : Option Addr) (c : Nat) (bs : List Int), Blk w g #[.slice A bs.length c, .int .i64 p] TRd ∧ Bys w 0 A c bs ∧ (bs ≠ [] → ∀ a, A = some a → a.block < g) ∧ bs.length ≤ 2000
theorem CellsAt.moved {w w' : World} {a : Addr} {cs : List Value} (h : CellsAt w a cs) (he : w'.heap[a.block]? = w.heap[a.block]?) : CellsAt w' a cs := by
  intro j u hj
  have e : (a.add j).block = a.block := by unfold Addr.add; split <;> rfl
  rw [World.cell?_of_block (w := w) (by rw [e]; exact he)]
  exact h j u hj
theorem Rd.lt {w : World} {g p : Nat} (h : Rd w g p) : g < w.heap.size := by
  obtain ⟨A, c, bs, h1, _⟩ := h.ex
  exact h1.lt
theorem Rd.keep {w w' : World} {g p : Nat} (h : Rd w g p) (hk : ∀ k, k ≤ g → w'.heap[k]? = w.heap[k]?) : Rd w' g p := by
  obtain ⟨A, c, bs, h1, h2, h3, h4⟩ := h.ex
  refine ⟨A, c, bs, ⟨(hk g (Nat.le_refl _)).trans h1.eq⟩, ⟨?_, h2.cap, h2.len, h2.byte⟩, h3, h4⟩
  rcases h2.row with h5 | ⟨a, e, h6, h7⟩
  · exact .inl h5
  · by_cases hb : bs = []
    · exact .inl (by rw [hb]; rfl)
    · exact .inr ⟨a, e, h6, CellsAt.moved h7 (hk _ (Nat.le_of_lt (h3 hb a e)))⟩
theorem Rd.grown {w w' : World} {g p : Nat} (h : Rd w g p) {row : Option Nat} (hg : w.grownBy w' row) (hr : ∀ k, row = some k → g < k) : Rd w' g p :=
  h.keep fun k hk => hg.block k (by have := h.lt; omega) (fun e => by have := hr k e.symm; omega)
theorem Rd.below {w w' : World} {g p : Nat} (h : Rd w g p) (hb : Below w.heap.size w w') : Rd w' g p :=
  h.keep fun k hk => hb.block k (by have := h.lt; omega)
theorem Rd.step {w : World} {g p : Nat} (h : Rd w g p) (q : Nat) : Rd (w.setCell ⟨g, 1, none⟩ (.int .i64 q)) g q := by
  obtain ⟨A, c, bs, h1, h2, h3, h4⟩ := h.ex
  refine ⟨A, c, bs, ?_, ⟨?_, h2.cap, h2.len, h2.byte⟩, h3, h4⟩
  · have := h1.set 1 (.int .i64 q)
    simpa using this
  · rcases h2.row with h5 | ⟨a, e, h6, h7⟩
    · exact .inl h5
    · by_cases hb : bs = []
      · exact .inl (by rw [hb]; rfl)
      · exact .inr ⟨a, e, h6, CellsAt.moved h7 (Below.heap_setCell w _ _ _ (by have := h3 hb a e; show a.block ≠ g; omega))⟩
theorem grown_then {w w1 w2 : World} {row : Option Nat} (h : w.grownBy w1 row) (k : w1.grownBy w2 row) : w.grownBy w2 row :=
  ⟨k.os.trans h.os, k.tape.trans h.tape, k.output.trans h.output, Nat.le_trans h.size k.size, fun i hi hne => (k.block i (Nat.lt_of_lt_of_le hi h.size) hne).trans (h.block i hi hne)⟩
theorem grown_below {w w1 : World} {row : Option Nat} (h : Below w.heap.size w w1) : w.grownBy w1 row :=
  ⟨h.os, h.tape, h.output, h.size, fun i hi _ => h.block i hi⟩

theorem i64_xor {a b : Int} (ha : 0 ≤ a) (ha' : a < 9223372036854775808) (hb : 0 ≤ b) (hb' : b < 9223372036854775808) : ∃ m : Nat, bits .xor .i64 a b = m ∧ m < 9223372036854775808 := by
  obtain ⟨x, rfl⟩ := Int.eq_ofNat_of_zero_le ha
  obtain ⟨y, rfl⟩ := Int.eq_ofNat_of_zero_le hb
  have hx : x ^^^ y < 2 ^ 63 := Nat.xor_lt_two_pow (by omega) (by omega)
  have h1 : (BitVec.ofInt 64 (x : Int)).toNat = x := by
    rw [BitVec.ofInt_natCast, BitVec.toNat_ofNat]; exact Nat.mod_eq_of_lt (by omega)
  have h2 : (BitVec.ofInt 64 (y : Int)).toNat = y := by
    rw [BitVec.ofInt_natCast, BitVec.toNat_ofNat]; exact Nat.mod_eq_of_lt (by omega)
  refine ⟨x ^^^ y, ?_, by omega⟩
  show IntKind.i64.wrap ((BitVec.ofInt 64 (x : Int) ^^^ BitVec.ofInt 64 (y : Int)).toNat : Int) = _
  rw [BitVec.toNat_xor, h1, h2]
  exact IntWalk.i64_in _ (by omega)

theorem Bys.at_ {w : World} {lo : Nat} {A : Option Addr} {c : Nat} {bs : List Int} (h : Bys w lo A c bs) (k : Nat) (hk : k < bs.length) :
    ∃ a z, A = some a ∧ w.cell? (a.add k) = some (.int .u8 z) ∧ 0 ≤ z ∧ z < 256 := by
  rcases h.row with h0 | ⟨a, e, _, hc⟩
  · have := congrArg List.length h0
    simp at this
    subst this
    simp at hk
  · have := h.byte bs[k] (List.getElem_mem hk)
    exact ⟨a, bs[k], e, hc k _ (by simp [hk]), this.1, this.2⟩

theorem tmod_lo {a n : Int} (h : 0 ≤ a) : 0 ≤ a.tmod n := Int.tmod_nonneg n h
theorem tmod_hi {a n : Int} (h : 1 ≤ n) : a.tmod n < n := Int.tmod_lt_of_pos a (by omega)
theorem tmod_nat (a n : Nat) (h : 0 < n) : ∃ k : Nat, (a : Int).tmod (n : Int) = k ∧ k < n := ⟨a % n, by rw [Int.ofNat_tmod], Nat.mod_lt _ h⟩
theorem tdiv_nat (a n : Nat) : ∃ k : Nat, (a : Int).tdiv (n : Int) = k ∧ k ≤ a := ⟨a / n, by rw [Int.ofNat_tdiv], Nat.div_le_self _ _⟩

set_option maxHeartbeats 2000000 in
theorem pick_c (g p : Nat) (n : Int) (w : World) (h : Rd w g p) (hn : 1 ≤ n) (hn2 : n ≤ 1000000) (hp : p ≤ 1000000) :
    Calls Tryd.prog 69 #[.pointer (some ⟨g, 0, none⟩), .int .i64 n] w fun e w' => ∃ r : Int, e = .returned (.int .i64 r) ∧ 0 ≤ r ∧ r < n ∧ Rd w' g (p + 1) ∧ w.grownBy w' (some g) := by
  obtain ⟨A, c, bs, h1, h2, h3, h4⟩ := h.ex
  have c0 : w.cell? ⟨g, 0, none⟩ = some (.slice A bs.length c) := by rw [h1.cell]; rfl
  have c1 : w.cell? ⟨g, 1, none⟩ = some (.int .i64 p) := by rw [h1.cell]; rfl
  have f1 : w.frozen? ⟨g, 1, none⟩ = false := h1.free 1
  have HR : Hid (Rd (w.setCell ⟨g, 1, none⟩ (.int .i64 ((p : Int) + 1))) g (p + 1)) := h.step (p + 1)
  have HG : Hid (w.grownBy (w.setCell ⟨g, 1, none⟩ (.int .i64 ((p : Int) + 1))) (some g)) := grown_set (grown_refl w _) 1 _
  have HY : Hid (Bys (w.setCell ⟨g, 1, none⟩ (.int .i64 ((p : Int) + 1))) 0 A c bs) := by
    refine ⟨?_, h2.cap, h2.len, h2.byte⟩
    rcases h2.row with h5 | ⟨a, e, h6, h7⟩
    · exact .inl h5
    · by_cases hb : bs = []
      · exact .inl (by rw [hb]; rfl)
      · exact .inr ⟨a, e, h6, CellsAt.moved h7 (Below.heap_setCell w _ _ _ (by have := h3 hb a e; show a.block ≠ g; omega))⟩
  clear h h1 h2 h3
  by_cases hl : bs.length = 0
  · have b0 : ((bs.length : Int) == 0) = true := by simp [hl]
    have HL := Lib.hid hl
    clear hl
    go_enter Tryd.func69, Tryd.ntmps69
    go_wp2
    go_ret
    exact ⟨0, rfl, by omega, by omega, HR.out, HG.out⟩
  · have b0 : ((bs.length : Int) == 0) = false := by simp [hl]
    by_cases hk : p < bs.length
    · obtain ⟨a, z, rfl, c2, z0, z1⟩ := HY.out.at_ p hk
      clear hl
      go_enter Tryd.func69, Tryd.ntmps69
      go_wp2
      go_ret
      exact ⟨_, rfl, Int.emod_nonneg _ (by omega), Int.emod_lt_of_pos _ (by omega), HR.out, HG.out⟩
    · have hl' : 0 < bs.length := by omega
      obtain ⟨k1, e1, h1⟩ := tmod_nat p bs.length hl'
      obtain ⟨k2, e2, h2⟩ := tmod_nat (p * 7 + 3) bs.length hl'
      rw [show ((p * 7 + 3 : Nat) : Int) = (p : Int) * 7 + 3 by omega] at e2
      obtain ⟨k3, e3, h3⟩ := tdiv_nat p bs.length
      obtain ⟨a, z, rfl, c2, z0, z1⟩ := HY.out.at_ k1 h1
      obtain ⟨a', y, e, c3, y0, y1⟩ := HY.out.at_ k2 h2
      cases e
      have hne : ¬ bs = [] := by rintro rfl; simp at hl'
      have w0 : IntKind.i64.wrap z = z := IntWalk.i64_in _ (by omega)
      have w0' : IntKind.i64.wrap y = y := IntWalk.i64_in _ (by omega)
      have w1 : IntKind.i64.wrap ((p : Int) * 7) = (p : Int) * 7 := IntWalk.i64_in _ (by omega)
      have w2 : IntKind.i64.wrap ((p : Int) * 7 + 3) = (p : Int) * 7 + 3 := IntWalk.i64_in _ (by omega)
      have w3 : IntKind.i64.wrap (z * 131) = z * 131 := IntWalk.i64_in _ (by omega)
      have w4 : IntKind.i64.wrap (y * 1117) = y * 1117 := IntWalk.i64_in _ (by omega)
      have w5 : IntKind.i64.wrap (z * 131 + y * 1117) = z * 131 + y * 1117 := IntWalk.i64_in _ (by omega)
      have w6 : IntKind.i64.wrap ((p : Int) * 29) = (p : Int) * 29 := IntWalk.i64_in _ (by omega)
      have w7 : IntKind.i64.wrap (z * 131 + y * 1117 + (p : Int) * 29) = z * 131 + y * 1117 + (p : Int) * 29 := IntWalk.i64_in _ (by omega)
      have w8 : IntKind.i64.wrap ((k3 : Int) * 53) = (k3 : Int) * 53 := IntWalk.i64_in _ (by omega)
      have w9 : IntKind.i64.wrap (z * 131 + y * 1117 + (p : Int) * 29 + (k3 : Int) * 53) = z * 131 + y * 1117 + (p : Int) * 29 + (k3 : Int) * 53 := IntWalk.i64_in _ (by omega)
      obtain ⟨X, hX⟩ : ∃ X, X = z * 131 + y * 1117 + (p : Int) * 29 + (k3 : Int) * 53 := ⟨_, rfl⟩
      rw [← hX] at w9
      have hX0 : 0 ≤ X := by omega
      have hX1 : X < 100000000 := by omega
      have HX := Lib.hid hX
      clear hX hl
      go_enter Tryd.func69, Tryd.ntmps69
      go_wp2
      go_quiet (fail)
      clear w0 w0' w1 w2 w3 w4 w5 w6 w7 w8 w9 e1 e2 e3 c2 c3
      rw [← HX.out]
      have q0 : 0 ≤ X / 64 := by omega
      have q1 : X / 64 < 9223372036854775808 := by omega
      obtain ⟨m, hm, hm1⟩ := i64_xor hX0 (by omega) q0 q1
      clear q0 q1
      go_wp2
      go_ret
      exact ⟨_, rfl, Int.emod_nonneg _ (by omega), Int.emod_lt_of_pos _ (by omega), HR.out.below (below_drewN (Below.refl _ _) _), grown_then HG.out (grown_below (below_drewN (Below.refl _ _) _))⟩

theorem num_c (g p b c : Nat) (zs : List Int) (lo hi : Int) (w : World) (h : Rd w g p) (hc : CellsAt w ⟨b, 0, none⟩ (zs.map fun z => .int .i64 z)) (hbg : b ≠ g) (hb : b < w.heap.size) (hz : ∀ z ∈ zs, lo ≤ z ∧ z ≤ hi) (hl : 0 < zs.length) (hl2 : zs.length ≤ 1000000) (hp : p ≤ 1000000) :
    Calls Tryd.prog 84 #[.pointer (some ⟨g, 0, none⟩), .slice (some ⟨b, 0, none⟩) zs.length c] w fun e w' => ∃ r : Int, e = .returned (.int .i64 r) ∧ lo ≤ r ∧ r ≤ hi ∧ Rd w' g (p + 1) ∧ w.grownBy w' (some g) := by
  go_enter Tryd.func84, Tryd.ntmps84
  go_wp2_with fail
  refine (pick_c g p _ _ h (by omega) (by omega) hp).mono ?_
  rintro e w1 ⟨r, rfl, r0, r1, HR, HG⟩
  obtain ⟨k, rfl⟩ := Int.eq_ofNat_of_zero_le r0
  have hk : k < zs.length := by omega
  have c1 : w1.cell? ⟨b, k, none⟩ = some (.int .i64 zs[k]) := by
    have e0 : (⟨b, 0, none⟩ : Addr).add k = ⟨b, k, none⟩ := by unfold Addr.add; split <;> simp_all
    rw [World.cell?_of_block (w := w) (HG.block b hb (by simpa using hbg)), ← e0]
    exact hc k _ (by simp [hk])
  have hzk := hz zs[k] (List.getElem_mem hk)
  have hR := Lib.hid HR
  have hG := Lib.hid HG
  obtain ⟨z, hz1⟩ : ∃ z, zs[k] = z := ⟨_, rfl⟩
  rw [hz1] at c1 hzk
  clear HR HG hz hz1
  go_wp2
  go_ret
  exact ⟨z, rfl, hzk.1, hzk.2, hR.out, hG.out⟩

theorem open_c (A : Option Addr) (c : Nat) (bs : List Int) (w : World) (h : Bys w 0 A c bs) :
    Calls Tryd.prog 52 #[.slice A bs.length c] w fun e w' => ∃ g, e = .returned (.pointer (some ⟨g, 0, none⟩)) ∧ Rd w' g 0 ∧ w.heap.size ≤ g ∧ Below w.heap.size w w' := by
  have hlt : bs ≠ [] → ∀ a, A = some a → a.block < w.heap.size := by
    intro hb a e
    subst e
    obtain ⟨a', z, e, h1, _⟩ := h.at_ 0 (List.length_pos_iff.2 hb)
    cases e
    have := World.block_lt_of_cell? w _ h1
    simpa [Addr.add] using this
  have hcap := h.cap
  have hlen := h.len
  unfold maxN at hlen
  by_cases hl : (2000 : Int) < bs.length
  · have e1 : (bs.take 2000).length = 2000 := by rw [List.length_take]; omega
    have HT : Hid (Bys w 0 A c (bs.take 2000)) := by
      refine ⟨?_, by omega, by rw [e1]; unfold maxN; omega, fun z hz => h.byte z (List.mem_of_mem_take hz)⟩
      rcases h.row with h5 | ⟨a, e, h6, h7⟩
      · exact .inl (by rw [List.map_eq_nil_iff] at h5; subst h5; simp)
      · refine .inr ⟨a, e, h6, fun j u hj => h7 j u ?_⟩
        rw [List.map_take, List.getElem?_take] at hj
        split at hj
        · exact hj
        · cases hj
    have HB := Lib.hid (blk_new w #[.slice A 2000 c, .int .i64 0] TRd)
    have HL := Lib.hid hlt
    have E1 := Lib.hid e1
    have hA : ∃ a, A = some a := by
      obtain ⟨a', _, e, _⟩ := h.at_ 0 (by omega)
      exact ⟨a', e⟩
    obtain ⟨a, rfl⟩ := hA
    have HN : Hid (bs ≠ []) := by rintro rfl; simp at hl
    clear hlt h e1
    go_enter Tryd.func52, Tryd.ntmps52
    go_wp2
    go_ret
    refine ⟨w.heap.size, rfl, ⟨some a, c, bs.take 2000, ?_, HT.out.below (below_alloc (Below.refl _ _) _), fun _ a' e => HL.out HN.out a' e, by rw [E1.out]; exact Nat.le_refl _⟩, Nat.le_refl _, below_alloc (Below.refl _ _) _⟩
    rw [E1.out]
    exact HB.out
  · have HB := Lib.hid (blk_new w #[.slice A bs.length c, .int .i64 0] TRd)
    have HL := Lib.hid hlt
    have HH := Lib.hid h
    clear hlt h
    go_enter Tryd.func52, Tryd.ntmps52
    go_wp2
    go_ret
    exact ⟨w.heap.size, rfl, ⟨A, c, bs, HB.out, HH.out.below (below_alloc (Below.refl _ _) _), fun hb a e => HL.out hb a e, by omega⟩, Nat.le_refl _, below_alloc (Below.refl _ _) _⟩

theorem min_c (a b : Int) (w : World) :
    Calls Tryd.prog 102 #[.int .i64 a, .int .i64 b] w fun e w' => e = .returned (.int .i64 (if a < b then a else b)) ∧ w = w' := by
  go_enter Tryd.func102, Tryd.ntmps102
  by_cases h : a < b
  · rw [if_pos h]
    go_wp2
    go_ret
    exact ⟨rfl, rfl⟩
  · rw [if_neg h]
    go_wp2
    go_ret
    exact ⟨rfl, rfl⟩

end Go.Proofs.YtlchipjckgaclaaDoor

/- SetJoin, SetMeet, SetNot of the reference. (Printed by wip/gen/specops.py.) -/
namespace Go.Proofs.YtlchipjckgaclaaDoor
set_option linter.unusedSimpArgs false
set_option linter.unusedVariables false
set_option maxRecDepth 100000
open Go.RowKit

abbrev TB : Nat := 4
theorem infoBool : (Tryd.prog.info? TB).map (fun i => (i.zero, i.size, i.bytes)) = some (some (.bool false), 1, 1) := by kernel_rfl
theorem own_bits {w : World} {base g : Nat} (h : w.ownsRow base TB 1 (.slice (some ⟨g, 0, none⟩) 256 256) 256 (madeCells (Value.bool false).cells (256 * 1)).toList) : Blk w g (bitCells fun _ => false).toArray TB := by
  obtain ⟨cur, hb, hs, _, _, _, ht⟩ := own_blk h
  have e : cur = (bitCells fun _ => false).toArray := by
    apply Array.toList_inj.1
    rw [List.take_of_length_le (by rw [Array.length_toList, hs]; exact Nat.le_refl _)] at ht
    rw [ht]
    apply List.ext_getElem?
    intro j
    by_cases hj : j < 256
    · rw [bitCells_get _ _ hj]
      simp [madeCells, Value.cells, hj, Nat.mod_one]
    · rw [List.getElem?_eq_none (by simp [madeCells]; omega), List.getElem?_eq_none (by simp [bitCells_length]; omega)]
  rw [← e]; exact hb

end Go.Proofs.YtlchipjckgaclaaDoor
