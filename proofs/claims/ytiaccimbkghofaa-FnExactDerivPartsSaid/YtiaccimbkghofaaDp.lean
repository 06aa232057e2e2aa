/- DerivParts of the program and of the reference. -/
import Derived.Test.YtiaccimbkghofaaG7
import Derived.Test.YtiaccimbkghofaaG10
namespace Go.Proofs.Ytiaccimbkghofaa
set_option linter.unusedSimpArgs false
set_option linter.unusedVariables false
open Go.RowKit

def derivParts (r : Rex) : List (List Sp) := if rexOk r then setParts (setsOf r) else []
set_option maxHeartbeats 1000000 in
theorem iDerivParts_c (r : Rex) (v1 v2 : Value) (w : World) (lo : Nat) (h : RexV w lo r (.int .i64 r.kind) v1 v2) (hsz : r.size ≤ 1048576) :
    Calls Try.prog 45 #[.agg #[.int .i64 r.kind, v1, v2]] w fun e w' => ∃ v fp L, e = .returned v ∧ OwnSS w' fp v (derivParts r) L ∧ (∀ b, b ∈ fp → w.heap.size ≤ b) ∧ Below w.heap.size w w' := by
  obtain ⟨A, c, K, ck, _, rfl, rfl, _, _⟩ := h.parts
  obtain ⟨wa, hwa⟩ : ∃ x, x = w.alloc (.cells #[.int .i64 r.kind, .slice A r.set.length c, .slice K r.kids.length ck] TRx) := ⟨_, rfl⟩
  have hb : Below w.heap.size w wa := by rw [hwa]; exact below_alloc (Below.refl _ _) _
  have m0 : Blk wa w.heap.size #[.int .i64 r.kind, .slice A r.set.length c, .slice K r.kids.length ck] TRx := by rw [hwa]; exact blk_new w _ _
  have HV := Lib.hid (h.under hb)
  have HB := Lib.hid hb
  have M0 := Lib.hid m0
  clear hb m0 h
  replace hwa := hwa.symm
  have n0 : wa.cell? ⟨w.heap.size, 0, none⟩ = some (.int .i64 r.kind) := by rw [M0.out.cell]; rfl
  have n0' : wa.cell? ⟨w.heap.size, 1, none⟩ = some (.slice A r.set.length c) := by rw [M0.out.cell]; rfl
  have n0'' : wa.cell? ⟨w.heap.size, 2, none⟩ = some (.slice K r.kids.length ck) := by rw [M0.out.cell]; rfl
  go_enter Try.func45, Try.ntmps45
  go_wp2_with fail
  clear hwa
  refine (iRexOk_c _ _ _ _ _ HV.out hsz).mono ?_
  rintro e w1 ⟨rfl, b1⟩
  replace M0 := Lib.hid (M0.out.below b1)
  have H1 := Lib.hid b1
  clear n0 n0' n0'' b1
  have n0 : w1.cell? ⟨w.heap.size, 0, none⟩ = some (.int .i64 r.kind) := by rw [M0.out.cell]; rfl
  have n0' : w1.cell? ⟨w.heap.size, 1, none⟩ = some (.slice A r.set.length c) := by rw [M0.out.cell]; rfl
  have n0'' : w1.cell? ⟨w.heap.size, 2, none⟩ = some (.slice K r.kids.length ck) := by rw [M0.out.cell]; rfl
  by_cases hf : rexOk r = true
  · have HF := Lib.hid hf
    have hm := ok_many hf
    rw [hf]
    clear hf
    go_wp2_with fail
    refine (iSets_c r _ _ nilS wa w1 lo [] [] [] HV.out H1.out (OwnSS.nil _) (fun b hb => by simp at hb) hsz (by simp; omega)).mono ?_
    rintro e w2 ⟨v2, fp2, L2, rfl, o2, b2, f2⟩
    rw [List.nil_append] at o2
    obtain ⟨K2, ck2, rfl, hs⟩ := o2.ssv
    have HS2 := Lib.hid hs
    have HB2 := Lib.hid b2
    have hlen : (setsOf r).length ≤ 24 := Nat.le_trans (sets_many r) hm
    clear o2 b2 f2 hs n0 n0' n0''
    go_wp2_with fail
    refine (iSetParts_c (setsOf r) _ _ w2 HS2.out (by omega)).mono ?_
    rintro e w3 ⟨v3, fp3, L3, rfl, o3, f3, b3⟩
    have HO3 := Lib.hid o3
    have HB3 := Lib.hid b3
    have HF3 : Hid (∀ b, b ∈ fp3 → w2.heap.size ≤ b) := f3
    clear o3 b3 f3
    go_wp2
    go_ret
    refine ⟨v3, fp3, L3, rfl, by rw [derivParts, if_pos HF.out]; exact HO3.out, fun b hb => ?_, below_then (below_then HB.out HB2.out) HB3.out⟩
    have h1 := HB.out.size
    have h2 := HB2.out.size
    have := HF3.out b hb
    omega
  · have HF := Lib.hid hf
    rw [show rexOk r = false by simpa using hf]
    clear hf
    go_wp2
    go_ret
    exact ⟨_, [], [], rfl, by rw [derivParts, if_neg HF.out]; exact OwnSS.nil _, fun b hb => by simp at hb, below_then HB.out H1.out⟩

set_option maxHeartbeats 1000000 in
theorem sDerivParts_c (r : Rex) (v1 v2 : Value) (w : World) (lo : Nat) (h : RexV w lo r (.int .i64 r.kind) v1 v2) (hsz : r.size ≤ 1048576) :
    Calls Try.prog 44 #[.agg #[.int .i64 r.kind, v1, v2]] w fun e w' => ∃ K' ck', e = .returned (.slice K' (derivParts r).length ck') ∧ SSV w' 0 K' ck' (derivParts r) ∧ Below w.heap.size w w' := by
  obtain ⟨A, c, K, ck, _, rfl, rfl, _, _⟩ := h.parts
  obtain ⟨wa, hwa⟩ : ∃ x, x = w.alloc (.cells #[.int .i64 r.kind, .slice A r.set.length c, .slice K r.kids.length ck] TRx) := ⟨_, rfl⟩
  have hb : Below w.heap.size w wa := by rw [hwa]; exact below_alloc (Below.refl _ _) _
  have m0 : Blk wa w.heap.size #[.int .i64 r.kind, .slice A r.set.length c, .slice K r.kids.length ck] TRx := by rw [hwa]; exact blk_new w _ _
  have HV := Lib.hid (h.under hb)
  have HB := Lib.hid hb
  have M0 := Lib.hid m0
  clear hb m0 h
  replace hwa := hwa.symm
  have n0 : wa.cell? ⟨w.heap.size, 0, none⟩ = some (.int .i64 r.kind) := by rw [M0.out.cell]; rfl
  have n0' : wa.cell? ⟨w.heap.size, 1, none⟩ = some (.slice A r.set.length c) := by rw [M0.out.cell]; rfl
  have n0'' : wa.cell? ⟨w.heap.size, 2, none⟩ = some (.slice K r.kids.length ck) := by rw [M0.out.cell]; rfl
  go_enter Try.func44, Try.ntmps44
  go_wp2_with fail
  clear hwa
  refine (sRexOk_c _ _ _ _ _ HV.out hsz).mono ?_
  rintro e w1 ⟨rfl, b1⟩
  replace M0 := Lib.hid (M0.out.below b1)
  have H1 := Lib.hid b1
  clear n0 n0' n0'' b1
  have n0 : w1.cell? ⟨w.heap.size, 0, none⟩ = some (.int .i64 r.kind) := by rw [M0.out.cell]; rfl
  have n0' : w1.cell? ⟨w.heap.size, 1, none⟩ = some (.slice A r.set.length c) := by rw [M0.out.cell]; rfl
  have n0'' : w1.cell? ⟨w.heap.size, 2, none⟩ = some (.slice K r.kids.length ck) := by rw [M0.out.cell]; rfl
  by_cases hf : rexOk r = true
  · have HF := Lib.hid hf
    have hm := ok_many hf
    rw [hf]
    clear hf
    go_wp2_with fail
    refine (sL2Sets_c r _ _ w1 lo (HV.out.under H1.out) hsz (by omega)).mono ?_
    rintro e w2 ⟨v2, fp2, L2, rfl, o2, f2, b2⟩
    obtain ⟨K2, ck2, rfl, hs⟩ := o2.ssv
    have HS2 := Lib.hid hs
    have HB2 := Lib.hid b2
    clear o2 b2 f2 hs n0 n0' n0''
    have E : Hid (derivParts r = setParts (setsOf r)) := by show _ = _; rw [derivParts, if_pos HF.out]
    go_wp2_with fail
    refine (sSetParts_c (setsOf r) _ _ w2 HS2.out).mono ?_
    rintro e w3 ⟨K3, ck3, he, hs3, b3⟩
    rw [← E.out] at he hs3
    subst he
    have HS3 := Lib.hid hs3
    have HB3 := Lib.hid b3
    clear hs3 b3
    go_wp2
    go_ret
    exact ⟨K3, ck3, rfl, HS3.out, below_then HB.out (below_then H1.out (below_then HB2.out HB3.out))⟩
  · have HF := Lib.hid hf
    have E : Hid (derivParts r = []) := by show _ = _; rw [derivParts, if_neg HF.out]
    rw [show rexOk r = false by simpa using hf]
    clear hf
    go_wp2
    go_ret
    refine ⟨some ⟨w1.heap.size, 0, none⟩, 0, by rw [E.out]; rfl, ?_, below_then HB.out (below_alloc' H1.out _)⟩
    rw [E.out]
    exact ⟨fun i xs hi => by simp at hi, Nat.le_refl _, by simp⟩

end Go.Proofs.Ytiaccimbkghofaa
