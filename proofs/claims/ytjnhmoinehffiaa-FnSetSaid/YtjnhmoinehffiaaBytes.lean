/- The laws' arguments: a list of bytes. -/
import Derived.Test.YtjnhmoinehffiaaArgs
import Derived.ChangeSlices
import Derived.OpenShut
namespace Go.Proofs.Ytjnhmoinehffiaa
set_option linter.unusedSimpArgs false
set_option linter.unusedVariables false
open Go.RowKit Go.ChangeShapes Go.WideShapes

/-- bytes that lie in a row -/
structure Bys (w : World) (lo : Nat) (A : Option Addr) (c : Nat) (bs : List Int) : Prop where
  row : Row w lo A (bs.map fun z => .int .u8 z)
  cap : bs.length ≤ c
  len : bs.length ≤ maxN
  byte : ∀ z ∈ bs, 0 ≤ z ∧ z < 256
theorem Bys.below {w w' : World} {lo : Nat} {A : Option Addr} {c : Nat} {bs : List Int} (h : Bys w lo A c bs) (hb : Below w.heap.size w w') : Bys w' lo A c bs := ⟨h.row.below hb, h.cap, h.len, h.byte⟩
theorem open_bytes {H : Type} {enc : TypeId × Value → H} {w : World} {spare : Nat → Bool} {held : Bool} {fuel : Nat} {cs : List Value} {x : DataW H × List MemPlace}
    (h : DataW.trod enc Try.prog w 0 spare held fuel 22 cs = some x) : ∃ A c bs, cs = [.slice A (List.length bs) c] ∧ Bys w 0 A c bs := by
  rcases open_ints Try.underlying22 Try.underlying5 (by kernel_rfl) h with ⟨rfl, _⟩ | ⟨a, len, cap, zs, rfl, _, hl, hm, hz, _, hx, hw⟩
  · exact ⟨none, 0, [], rfl, .inl rfl, Nat.le_refl _, by simp, fun z hz => by cases hz⟩
  · have hlz : len ≤ zs.length := by rw [hz]; split <;> omega
    have e : (zs.take len).length = len := by rw [List.length_take]; omega
    refine ⟨some a, cap, zs.take len, by rw [e], .inr ⟨a, rfl, Nat.zero_le _, ?_⟩, by rw [e]; exact hl, by rw [e]; unfold maxLen at hm; unfold maxN; omega, ?_⟩
    · intro j u hj
      rw [List.getElem?_map, Option.map_eq_some_iff] at hj
      obtain ⟨z, hz1, rfl⟩ := hj
      have hjl : j < len := by rw [← e]; exact (List.getElem?_eq_some_iff.1 hz1).1
      rw [List.getElem?_take, if_pos hjl] at hz1
      rw [hx j (by omega), List.getD_eq_getElem?_getD, hz1]
      rfl
    · intro z hz
      have := bounds_u8 (hw z (List.mem_of_mem_take hz))
      omega

end Go.Proofs.Ytjnhmoinehffiaa
