/- setsOf of the program. -/
import Derived.Test.YtiaccimbkghofaaSS3
import Derived.Test.YtiaccimbkghofaaAp
import Derived.Test.YtiaccimbkghofaaCs
import Derived.Test.YtiaccimbkghofaaT10
namespace Go.Proofs.Ytiaccimbkghofaa
set_option linter.unusedSimpArgs false
set_option linter.unusedVariables false
open Go.RowKit

theorem vblk_nodup (v : Value) : (vblk v).Nodup := by
  unfold vblk
  split <;> simp
theorem OwnSS.app {w w' : World} {fp : List Nat} {v v' : Value} {xss yss : List (List Sp)} {L M : List Value} (h : OwnSS w fp v xss L) (hM : yss.length = M.length) (hr : ∀ (i : Nat) (ys : List Sp) (y : Value), yss[i]? = some ys → M[i]? = some y → OwnSp w 0 y ys)
    (hnd : (M.flatMap vblk).Nodup) (hdj : ∀ b, b ∈ M.flatMap vblk → b ∉ fp) (hown : w'.ownsRow 0 TSS 1 v' (xss.length + yss.length) (L ++ M)) (hg : w.grownBy w' v.ownBlock) (hat : ∀ b, b ∈ vblk v' → b ∈ vblk v ∨ b = w.heap.size)
    (hn : xss.length + yss.length ≤ maxN) : OwnSS w' (vblk v' ++ (L ++ M).flatMap vblk) v' (xss ++ yss) (L ++ M) := by
  have hlt := h.lt
  obtain ⟨hL, hk, _, hro, fe, nd⟩ := h
  have ht := Touch.of_grown hg
  subst fe
  obtain ⟨n1, n2, n3⟩ := List.nodup_append.1 nd
  have hMlt : ∀ b, b ∈ M.flatMap vblk → b < w.heap.size := fun b hb => by
    obtain ⟨i, x, hx, hb⟩ := mem_vbs.1 hb
    have hi := (List.getElem?_eq_some_iff.1 hx).1
    exact ((hr i (yss[i]'(by omega)) x (List.getElem?_eq_getElem _) hx).lt b hb).2
  refine ⟨by simp [hL, hM], by simpa using hown, by simpa using hn, fun i xs x hi hx => ?_, rfl, ?_⟩
  · by_cases hlt' : i < xss.length
    · rw [List.getElem?_append_left hlt'] at hi
      rw [List.getElem?_append_left (by omega)] at hx
      have ho := hro i xs x hi hx
      exact ho.stay fun b hb => ht.block b (ho.lt b hb).2 fun h2 => n3 b h2 b (mem_vbs.2 ⟨i, x, hx, hb⟩) rfl
    · rw [List.getElem?_append_right (by omega)] at hi
      rw [List.getElem?_append_right (by omega)] at hx
      rw [hL] at hi
      have ho := hr _ xs x hi hx
      exact ho.stay fun b hb => ht.block b (ho.lt b hb).2 fun h2 => hdj b (mem_vbs.2 ⟨_, x, hx, hb⟩) (List.mem_append_left _ h2)
  · rw [List.flatMap_append]
    refine List.nodup_append.2 ⟨vblk_nodup _, List.nodup_append.2 ⟨n2, hnd, fun a ha b hb e => hdj b hb (e ▸ List.mem_append_right _ ha)⟩, fun a ha b hb e => ?_⟩
    subst e
    rcases hat a ha with h1 | h1
    · rcases List.mem_append.1 hb with h2 | h2
      · exact n3 a h1 a h2 rfl
      · exact hdj a h2 (List.mem_append_left _ h1)
    · rcases List.mem_append.1 hb with h2 | h2
      · have := hlt a (List.mem_append_right _ h2); omega
      · have := hMlt a h2; omega
theorem setsOfL_append : ∀ (ks ls : List Rex), setsOfL (ks ++ ls) = setsOfL ks ++ setsOfL ls
  | [], ls => by simp [setsOfL]
  | r :: ks, ls => by rw [List.cons_append, setsOfL, setsOfL, setsOfL_append ks ls, List.append_assoc]
theorem setsOfL_take {ks : List Rex} {j : Nat} {r : Rex} (h : ks[j]? = some r) : setsOfL (ks.take (j + 1)) = setsOfL (ks.take j) ++ setsOf r := by
  rw [List.take_add_one, h, setsOfL_append]
  simp [setsOfL]
mutual
theorem sets_many : ∀ r : Rex, (setsOf r).length ≤ r.many
  | .mk k s ks => by
    have := setsL_many ks
    rw [setsOf, Rex.many, List.length_append]
    split <;> simp <;> omega
theorem setsL_many : ∀ ks : List Rex, (setsOfL ks).length ≤ manyL ks
  | [] => by simp [setsOfL, manyL]
  | r :: ks => by
    have h1 := sets_many r
    have h2 := setsL_many ks
    rw [setsOfL, manyL, List.length_append]
    omega
end
theorem manyL_take : ∀ (ks : List Rex) (j : Nat) {r : Rex}, ks[j]? = some r → manyL (ks.take j) + r.many ≤ manyL ks
  | [], j, r, h => by simp at h
  | x :: ks, 0, r, h => by
    simp at h
    subst h
    simp [manyL]
  | x :: ks, j + 1, r, h => by
    have := manyL_take ks j (r := r) (by simpa using h)
    rw [List.take_succ_cons, manyL, manyL]
    omega

end Go.Proofs.Ytiaccimbkghofaa
