/- heldRex, heldRexS. -/
import Derived.Test.YtiaccimbkghofaaM2
import Derived.Test.YtiaccimbkghofaaMem
namespace Go.Proofs.Ytiaccimbkghofaa
set_option linter.unusedSimpArgs false
set_option linter.unusedVariables false
open Go.RowKit

theorem markN_set (q : Int) (r : Rex) : (markN q r).set = markSps (q + 1) r.set := by rw [markN_of]; rfl
theorem markN_kids (q : Int) (r : Rex) : (markN q r).kids = markL (q + 1 + 2 * (r.set.length : Int)) r.kids := by rw [markN_of]; rfl
theorem markN_kind (q : Int) (r : Rex) : (markN q r).kind = q := by rw [markN_of]; rfl
def HeldOk (ks : List Rex) : Prop := ∀ (ms : List Rex) (K : Option Addr) (ck : Nat) (q : Int) (w : World) (lo : Nat), ms = markL q ks → Kids w lo K ck ms → 0 ≤ q → q + cntL ks ≤ 1073741824 →
  Calls Try.prog 72 #[.slice K ms.length ck, .int .i64 q] w fun e w' => e = .returned (.int .i64 (q + cntL ks)) ∧ Drawn w w'

set_option maxHeartbeats 4000000 in
theorem heldRexS_of (ks : List Rex) (ih : ∀ r, r ∈ ks → HeldOk r.kids) : HeldOk ks := by
  intro ms K ck q w lo hms h h0 h1
  have hlen := h.len
  unfold maxN at hlen
  have HMS := Lib.hid hms
  have HLN : Hid (ms.length = ks.length) := by rw [hms]; exact markL_length ks q
  have HK := Lib.hid h
  clear hms h
  go_enter Try.func72, Try.ntmps72
  go_wp2
  go_loopg [1, 5] (ms.length) (fun n q' i wr => ∃ j : Nat, j + n = ms.length ∧ i = .int .i64 j ∧ (∃ p : Nat, q' = .int .i64 (q + p) ∧ Hid (p = cntL (ks.take j))) ∧ Drawn w wr)
  case atStart => exact ⟨0, by omega, rfl, ⟨0, by simp, by simp [Hid, cntL]⟩, Drawn.refl _⟩
  case round =>
    obtain ⟨j, hj, rfl, ⟨p, rfl, HP⟩, m, rfl⟩ := hrel
    have hle := cntL_take_le ks j
    rw [← HP.out] at hle
    by_cases hlt : j < ms.length
    · have hlt' : j < ks.length := by have := HLN.out; omega
      obtain ⟨r, hr⟩ : ∃ r, ks[j]? = some r := ⟨ks[j], List.getElem?_eq_getElem hlt'⟩
      obtain ⟨a, x, v1, v2, rfl, HX, HD, HV, c0, c1, c2⟩ := HK.out.at_ j hlt
      have ex : x = markN (q + p) r := by
        have e := HX.out
        rw [HMS.out, markL_get hr, ← HP.out] at e
        exact (Option.some.inj e).symm
      subst ex
      obtain ⟨A, c, K', ck', _, rfl, rfl, sp, kd⟩ := HV.out.parts
      have hct := cntL_take hr
      have hcl := cntL_take_le ks (j + 1)
      have hcn := cnt_of r
      rw [← HP.out] at hct
      have hmem := List.mem_of_getElem? hr
      have HCT := Lib.hid hct
      have HCN := Lib.hid hcn
      have hb1 : q + (p : Int) + 1 + 2 * (r.set.length : Int) + cntL r.kids ≤ 1073741824 := by omega
      have hsl : r.set.length ≤ 1073741824 := by omega
      rw [markN_kind] at c0
      rw [markN_set] at c1 sp
      rw [markN_kids] at c2 kd
      rw [markSps_length] at c1
      have HSP := Lib.hid sp
      have HKD := Lib.hid kd
      clear hct hcl hcn hle hr sp kd HD HX HV
      go_wp2_with fail
      have hh := heldSpanS_c A c (markSps (q + p + 1) r.set) r.set (q + p + 1) (w.drewN m) rfl (HSP.out.below (below_drewN (Below.refl _ _) m)) (by omega) (by omega) (by rw [markSps_length]; exact hsl)
      rw [markSps_length] at hh
      refine hh.mono ?_
      clear hh
      rintro e w2 ⟨rfl, m2, rfl⟩
      have hq1 : ¬ (q + (p : Int) + 1 + 2 * (r.set.length : Int) < 0) := by omega
      go_wp2_with fail
      refine (ih r hmem _ K' ck' _ _ lo rfl (HKD.out.below (below_drewN (Below.refl _ _) _)) (by omega) (by omega)).mono ?_
      rintro e w3 ⟨rfl, m3, rfl⟩
      have hq2 : ¬ (q + (p : Int) + 1 + 2 * (r.set.length : Int) + (cntL r.kids : Int) < 0) := by omega
      clear c0 c1 c2
      go_wp2
      go_roundg (gk - 1)
      case rel =>
        have hct := HCT.out
        have hcn := HCN.out
        refine ⟨j + 1, by omega, by go_num, ⟨p + (1 + r.cnt), by congr 1; omega, hct.symm⟩, ?_⟩
        exact ⟨_, rfl⟩
      case measure => omega
    · go_wp2
      go_ret
      have hj' : j = ks.length := by have := HLN.out; omega
      exact ⟨ret_int (by rw [HP.out, hj', List.take_length]), _, rfl⟩

theorem heldRexS_c (r : Rex) : HeldOk r.kids := by
  refine Rex.ind (p := fun r => HeldOk r.kids) (fun k s ks ih => ?_) r
  exact heldRexS_of ks ih

set_option maxHeartbeats 2000000 in
theorem heldRex_c (r : Rex) (v1 v2 : Value) (q : Int) (w : World) (lo : Nat) (h : RexV w lo (markT q r) (.int .i64 r.kind) v1 v2) (h0 : 0 ≤ q) (h1 : q + r.cnt ≤ 1073741824) :
    Calls Try.prog 33 #[.agg #[.int .i64 r.kind, v1, v2], .int .i64 q] w fun e w' => e = .returned (.int .i64 (q + r.cnt)) ∧ Below w.heap.size w w' := by
  obtain ⟨A, c, K, ck, _, rfl, rfl, sp, kd⟩ := h.parts
  simp only [markT, set_mk, kids_mk, markSps_length, markL_length] at sp kd ⊢
  have hcn := cnt_of r
  have hb1 : q + 2 * (r.set.length : Int) + cntL r.kids ≤ 1073741824 := by omega
  have hslen : r.set.length ≤ 1073741824 := by omega
  have hcn' : q + (r.cnt : Int) = q + 2 * (r.set.length : Int) + cntL r.kids := by omega
  rw [hcn']
  clear hcn hcn' h1 h
  obtain ⟨wa, hwa⟩ : ∃ x, x = w.alloc (.cells #[.int .i64 r.kind, .slice A r.set.length c, .slice K r.kids.length ck] TRx) := ⟨_, rfl⟩
  have hb : Below w.heap.size w wa := by rw [hwa]; exact below_alloc (Below.refl _ _) _
  have m0 : Blk wa w.heap.size #[.int .i64 r.kind, .slice A r.set.length c, .slice K r.kids.length ck] TRx := by rw [hwa]; exact blk_new w _ _
  replace hwa := hwa.symm
  have HB := Lib.hid hb
  have M0 := Lib.hid m0
  have HSP := Lib.hid (sp.below hb)
  have HKD := Lib.hid (kd.below hb)
  have n1 : wa.cell? ⟨w.heap.size, 1, none⟩ = some (.slice A r.set.length c) := by rw [m0.cell]; rfl
  clear hb m0 sp kd
  go_enter Try.func33, Try.ntmps33
  go_wp2_with fail
  clear hwa
  have hh := heldSpanS_c A c (markSps q r.set) r.set q wa rfl HSP.out (by omega) (by omega) (by rw [markSps_length]; exact hslen)
  rw [markSps_length] at hh
  refine hh.mono ?_
  clear hh
  rintro e w2 ⟨rfl, d2⟩
  have B2 := Lib.hid d2.below
  have n2 : w2.cell? ⟨w.heap.size, 2, none⟩ = some (.slice K r.kids.length ck) := by rw [(M0.out.below d2.below).cell]; rfl
  have hq1 : ¬ (q + 2 * (r.set.length : Int) < 0) := by omega
  clear n1 d2
  go_wp2_with fail
  have hh := heldRexS_c r _ K ck _ w2 lo rfl (HKD.out.below B2.out) (by omega) (by omega)
  rw [markL_length] at hh
  refine hh.mono ?_
  clear hh
  rintro e w3 ⟨rfl, d3⟩
  have hq2 : ¬ (q + 2 * (r.set.length : Int) + (cntL r.kids : Int) < 0) := by omega
  have B3 := Lib.hid (below_then HB.out (below_then B2.out d3.below))
  clear n2 d3
  go_wp2
  go_ret
  exact ⟨rfl, B3.out⟩

end Go.Proofs.Ytiaccimbkghofaa
