/- Lists of sets in memory: marks and holds. -/
import Derived.Test.YtiaccimbkghofaaSS1
import Derived.Test.YtiaccimbkghofaaM4
namespace Go.Proofs.Ytiaccimbkghofaa
set_option linter.unusedSimpArgs false
set_option linter.unusedVariables false
open Go.RowKit

def markSS (q : Int) : List (List Sp) → List (List Sp)
  | [] => []
  | xs :: r => markSps q xs :: markSS (q + 2 * (xs.length : Int)) r
def cntSS : List (List Sp) → Nat
  | [] => 0
  | xs :: r => 2 * xs.length + cntSS r
theorem markSS_length : ∀ (xss : List (List Sp)) (q : Int), (markSS q xss).length = xss.length
  | [], _ => rfl
  | xs :: r, q => by rw [markSS, List.length_cons, List.length_cons, markSS_length r]
theorem cntSS_take : ∀ (xss : List (List Sp)) (j : Nat) {xs : List Sp}, xss[j]? = some xs → cntSS (xss.take (j + 1)) = cntSS (xss.take j) + 2 * xs.length
  | [], j, xs, h => by simp at h
  | x :: r, 0, xs, h => by
    simp at h
    subst h
    simp [cntSS]
  | x :: r, j + 1, xs, h => by
    have := cntSS_take r j (xs := xs) (by simpa using h)
    rw [List.take_succ_cons, List.take_succ_cons, cntSS, cntSS, this]
    omega
theorem cntSS_take_le : ∀ (xss : List (List Sp)) (j : Nat), cntSS (xss.take j) ≤ cntSS xss
  | [], j => by simp
  | x :: r, 0 => by simp [cntSS]
  | x :: r, j + 1 => by
    have := cntSS_take_le r j
    rw [List.take_succ_cons, cntSS, cntSS]
    omega
theorem markSS_get : ∀ (xss : List (List Sp)) (j : Nat) (q : Int) {xs : List Sp}, xss[j]? = some xs → (markSS q xss)[j]? = some (markSps (q + (cntSS (xss.take j) : Int)) xs)
  | [], j, q, xs, h => by simp at h
  | x :: r, 0, q, xs, h => by
    simp at h
    subst h
    simp [markSS, cntSS]
  | x :: r, j + 1, q, xs, h => by
    have := markSS_get r j (q + 2 * (x.length : Int)) (xs := xs) (by simpa using h)
    rw [markSS, List.getElem?_cons_succ, this, List.take_succ_cons, cntSS]
    congr 2
    omega

set_option maxHeartbeats 1000000 in
theorem heldSpanSS_c (xss mss : List (List Sp)) (K : Option Addr) (ck : Nat) (q : Int) (w : World) {lo : Nat} (hms : mss = markSS q xss) (h : SSV w lo K ck mss) (h0 : 0 ≤ q) (h1 : q + cntSS xss ≤ 1073741824) :
    Calls Try.prog 30 #[.slice K mss.length ck, .int .i64 q] w fun e w' => e = .returned (.int .i64 (q + cntSS xss)) ∧ Drawn w w' := by
  have hlen := h.len
  unfold maxN at hlen
  have HMS := Lib.hid hms
  have HLN : Hid (mss.length = xss.length) := by rw [hms]; exact markSS_length xss q
  have HK := Lib.hid h
  clear hms h
  go_enter Try.func30, Try.ntmps30
  go_wp2
  go_loopg [1, 5] (mss.length) (fun n q' i wr => ∃ j : Nat, j + n = mss.length ∧ i = .int .i64 j ∧ (∃ p : Nat, q' = .int .i64 (q + p) ∧ Hid (p = cntSS (xss.take j))) ∧ Drawn w wr)
  case atStart => exact ⟨0, by omega, rfl, ⟨0, by simp, by simp [Hid, cntSS]⟩, Drawn.refl _⟩
  case round =>
    obtain ⟨j, hj, rfl, ⟨p, rfl, HP⟩, m, rfl⟩ := hrel
    have hle := cntSS_take_le xss j
    rw [← HP.out] at hle
    by_cases hlt : j < mss.length
    · have hlt' : j < xss.length := by have := HLN.out; omega
      obtain ⟨xs, hx⟩ : ∃ xs, xss[j]? = some xs := ⟨xss[j], List.getElem?_eq_getElem hlt'⟩
      obtain ⟨a, A, c, ys, rfl, HX, HV, c0⟩ := HK.out.at_ j hlt
      have ey : ys = markSps (q + p) xs := by
        have e := HX.out
        rw [HMS.out, markSS_get _ _ _ hx, ← HP.out] at e
        exact (Option.some.inj e).symm
      subst ey
      have hct := cntSS_take xss j hx
      have hcl := cntSS_take_le xss (j + 1)
      rw [← HP.out] at hct
      have HCT := Lib.hid hct
      have hb1 : q + (p : Int) + 2 * (xs.length : Int) ≤ 1073741824 := by omega
      have hsl : xs.length ≤ 1073741824 := by omega
      rw [markSps_length] at c0
      clear hct hcl hle hx HX
      go_wp2_with fail
      have hh := heldSpanS_c A c (markSps (q + p) xs) xs (q + p) (w.drewN m) rfl (HV.out.below (below_drewN (Below.refl _ _) m)) (by omega) (by omega) (by rw [markSps_length]; exact hsl)
      rw [markSps_length] at hh
      refine hh.mono ?_
      clear hh
      rintro e w2 ⟨rfl, m2, rfl⟩
      have hq1 : ¬ (q + (p : Int) + 2 * (xs.length : Int) < 0) := by omega
      clear c0
      go_wp2
      go_roundg (gk - 1)
      case rel =>
        have hct := HCT.out
        refine ⟨j + 1, by omega, by go_num, ⟨p + 2 * xs.length, by congr 1; omega, hct.symm⟩, ?_⟩
        exact ⟨_, rfl⟩
      case measure => omega
    · go_wp2
      go_ret
      have hj' : j = xss.length := by have := HLN.out; omega
      exact ⟨ret_int (by rw [HP.out, hj', List.take_length]), _, rfl⟩

/-- a row of sets that a call made: each in a block of its own -/
structure OwnSS (w : World) (fp : List Nat) (v : Value) (xss : List (List Sp)) (L : List Value) : Prop where
  hL : xss.length = L.length
  hk : w.ownsRow 0 TSS 1 v xss.length L
  hn : xss.length ≤ maxN
  hr : ∀ (i : Nat) (xs : List Sp) (x : Value), xss[i]? = some xs → L[i]? = some x → OwnSp w 0 x xs
  fe : fp = vblk v ++ L.flatMap vblk
  nd : fp.Nodup
theorem mem_vbs {L : List Value} {b : Nat} : b ∈ L.flatMap vblk ↔ ∃ (i : Nat) (x : Value), L[i]? = some x ∧ b ∈ vblk x := by
  rw [List.mem_flatMap]
  constructor
  · rintro ⟨x, hx, hb⟩
    obtain ⟨i, hi⟩ := List.getElem?_of_mem hx
    exact ⟨i, x, hi, hb⟩
  · rintro ⟨i, x, hi, hb⟩
    exact ⟨x, List.mem_of_getElem? hi, hb⟩
theorem OwnSS.stay {w w' : World} {fp : List Nat} {v : Value} {xss : List (List Sp)} {L : List Value} (h : OwnSS w fp v xss L) (hm : ∀ b, b ∈ fp → w'.heap[b]? = w.heap[b]?) : OwnSS w' fp v xss L := by
  obtain ⟨hL, hk, hn, hr, fe, nd⟩ := h
  refine ⟨hL, own_move hk fun g hg => hm g (by simp [fe, mem_vblk.2 hg]), hn, fun i r x hi hx => (hr i r x hi hx).stay fun b hb => hm b ?_, fe, nd⟩
  rw [fe]
  exact List.mem_append_right _ (mem_vbs.2 ⟨i, x, hx, hb⟩)
theorem OwnSS.lt {w : World} {fp : List Nat} {v : Value} {xss : List (List Sp)} {L : List Value} (h : OwnSS w fp v xss L) : ∀ b, b ∈ fp → b < w.heap.size := by
  intro b hb
  rw [h.fe] at hb
  rcases List.mem_append.1 hb with hb | hb
  · exact (h.hk.lt b (mem_vblk.1 hb)).2
  · obtain ⟨i, x, hx, hb⟩ := mem_vbs.1 hb
    have hi := (List.getElem?_eq_some_iff.1 hx).1
    have hL := h.hL
    exact ((h.hr i (xss[i]'(by omega)) x (List.getElem?_eq_getElem _) hx).lt b hb).2
theorem OwnSS.under {w w' : World} {fp : List Nat} {v : Value} {xss : List (List Sp)} {L : List Value} (h : OwnSS w fp v xss L) (hb : Below w.heap.size w w') : OwnSS w' fp v xss L := h.stay fun b hb' => hb.block b (h.lt b hb')

end Go.Proofs.Ytiaccimbkghofaa
