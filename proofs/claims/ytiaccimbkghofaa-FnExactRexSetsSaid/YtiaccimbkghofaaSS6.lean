/- RexSets of the program; l2Sets of the reference. -/
import Derived.Test.YtiaccimbkghofaaSS5
import Derived.Test.YtiaccimbkghofaaT9
namespace Go.Proofs.Ytiaccimbkghofaa
set_option linter.unusedSimpArgs false
set_option linter.unusedVariables false
open Go.RowKit

def rexSets (r : Rex) : List (List Sp) := if rexOk r then setsOf r else []
theorem OwnSS.nil (w : World) : OwnSS w [] nilS [] [] := ⟨rfl, World.ownsRow_nil _ _ _ _, by simp, fun i xs x h => by simp at h, rfl, List.nodup_nil⟩
theorem OwnSS.copy {w w' : World} {fp : List Nat} {v v' : Value} {xss : List (List Sp)} {L : List Value} (h : OwnSS w fp v xss L) (hown : w'.ownsRow w.heap.size TSS 1 v' xss.length L) (hb : Below w.heap.size w w') : OwnSS w' (vblk v' ++ L.flatMap vblk) v' xss L := by
  have hlt := h.lt
  have hu := h.under hb
  obtain ⟨hL, hk, hn, hr, fe, nd⟩ := hu
  subst fe
  refine ⟨hL, own_lower hown (Nat.zero_le _), hn, hr, rfl, ?_⟩
  refine List.nodup_append.2 ⟨vblk_nodup _, (List.nodup_append.1 nd).2.1, fun a ha b hb e => ?_⟩
  subst e
  have h1 := (hown.lt a (mem_vblk.1 ha)).1
  have h2 := hlt a (List.mem_append_right _ hb)
  omega
theorem OwnSS.ones {w : World} {fp : List Nat} {v : Value} {xss : List (List Sp)} {L : List Value} (h : OwnSS w fp v xss L) : ∀ u ∈ L, u.oneCell' = true := fun u hu => by
  obtain ⟨i, hi⟩ := List.getElem?_of_mem hu
  have hl := (List.getElem?_eq_some_iff.1 hi).1
  have hL := h.hL
  obtain ⟨A, c, e, _⟩ := (h.hr i (xss[i]'(by omega)) u (List.getElem?_eq_getElem _) hi).sps
  subst e
  rfl
theorem ok_many {r : Rex} (h : rexOk r = true) : r.many ≤ 24 := by
  rw [rexOk, Bool.and_eq_true] at h
  exact of_decide_eq_true h.2

set_option maxHeartbeats 1000000 in
theorem iRexSets_c (r : Rex) (v1 v2 : Value) (w : World) (lo : Nat) (h : RexV w lo r (.int .i64 r.kind) v1 v2) (hsz : r.size ≤ 1048576) :
    Calls Try.prog 26 #[.agg #[.int .i64 r.kind, v1, v2]] w fun e w' => ∃ v fp L, e = .returned v ∧ OwnSS w' fp v (rexSets r) L ∧ (∀ b, b ∈ fp → w.heap.size ≤ b) ∧ Below w.heap.size w w' := by
  obtain ⟨A, c, K, ck, _, rfl, rfl, _, _⟩ := h.parts
  obtain ⟨wa, hwa⟩ : ∃ x, x = w.alloc (.cells #[.int .i64 r.kind, .slice A r.set.length c, .slice K r.kids.length ck] TRx) := ⟨_, rfl⟩
  have hb : Below w.heap.size w wa := by rw [hwa]; exact below_alloc (Below.refl _ _) _
  have m0 : Blk wa w.heap.size #[.int .i64 r.kind, .slice A r.set.length c, .slice K r.kids.length ck] TRx := by rw [hwa]; exact blk_new w _ _
  have HV := Lib.hid (h.under hb)
  have HB := Lib.hid hb
  have M0 := Lib.hid m0
  clear hb m0 h
  replace hwa := hwa.symm
  have n0 : wa.cell? ⟨w.heap.size, 0, none⟩ = some (.int .i64 r.kind) := by rw [M0.out.cell]; rfl
  have n0' : wa.cell? ⟨w.heap.size, 1, none⟩ = some (.slice A r.set.length c) := by rw [M0.out.cell]; rfl
  have n0'' : wa.cell? ⟨w.heap.size, 2, none⟩ = some (.slice K r.kids.length ck) := by rw [M0.out.cell]; rfl
  go_enter Try.func26, Try.ntmps26
  go_wp2_with fail
  clear hwa
  refine (iRexOk_c _ _ _ _ _ HV.out hsz).mono ?_
  rintro e w1 ⟨rfl, b1⟩
  replace M0 := Lib.hid (M0.out.below b1)
  have H1 := Lib.hid b1
  clear n0 n0' n0'' b1
  have n0 : w1.cell? ⟨w.heap.size, 0, none⟩ = some (.int .i64 r.kind) := by rw [M0.out.cell]; rfl
  have n0' : w1.cell? ⟨w.heap.size, 1, none⟩ = some (.slice A r.set.length c) := by rw [M0.out.cell]; rfl
  have n0'' : w1.cell? ⟨w.heap.size, 2, none⟩ = some (.slice K r.kids.length ck) := by rw [M0.out.cell]; rfl
  by_cases hf : rexOk r = true
  · have HF := Lib.hid hf
    have hm := ok_many hf
    rw [hf]
    clear hf
    go_wp2_with fail
    refine (iSets_c r _ _ nilS wa w1 lo [] [] [] HV.out H1.out (OwnSS.nil _) (fun b hb => by simp at hb) hsz (by simp; omega)).mono ?_
    rintro e w2 ⟨v2, fp2, L2, rfl, o2, b2, f2⟩
    obtain ⟨K2, ck2, rfl, _, hrow⟩ := own_row o2.hk
    rw [List.nil_append] at o2
    have HO2 := Lib.hid o2
    have HR2 := Lib.hid hrow
    have HB2 := Lib.hid b2
    have HF2 : Hid (∀ b, b ∈ fp2 → wa.heap.size ≤ b) := f2
    have hlen : (setsOf r).length ≤ 24 := Nat.le_trans (sets_many r) hm
    have HL := Lib.hid o2.hL
    clear o2 hrow b2 f2 n0 n0' n0''
    go_wp2_with fail
    refine (copiedSS_c K2 ck2 (setsOf r).length L2 w2 HR2.out (by rw [← HL.out]; omega) HO2.out.ones (by omega)).mono ?_
    rintro e w3 ⟨v3, rfl, o3, b3⟩
    have HO3 := Lib.hid (HO2.out.copy o3 b3)
    have HB3 := Lib.hid b3
    have HV3 : Hid (∀ b, b ∈ vblk v3 → w2.heap.size ≤ b) := fun b hb => (o3.lt b (mem_vblk.1 hb)).1
    clear o3 b3
    go_wp2
    go_ret
    refine ⟨v3, _, L2, rfl, by rw [rexSets, if_pos HF.out]; exact HO3.out, fun b hb => ?_, below_then (below_then HB.out HB2.out) HB3.out⟩
    have h1 := HB.out.size
    have h2 := HB2.out.size
    rcases List.mem_append.1 hb with hb | hb
    · have := HV3.out b hb; omega
    · have := HF2.out b (by rw [HO2.out.fe]; exact List.mem_append_right _ hb); omega
  · have HF := Lib.hid hf
    rw [show rexOk r = false by simpa using hf]
    clear hf
    go_wp2
    go_ret
    exact ⟨_, [], [], rfl, by rw [rexSets, if_neg HF.out]; exact OwnSS.nil _, fun b hb => by simp at hb, below_then HB.out H1.out⟩

end Go.Proofs.Ytiaccimbkghofaa
