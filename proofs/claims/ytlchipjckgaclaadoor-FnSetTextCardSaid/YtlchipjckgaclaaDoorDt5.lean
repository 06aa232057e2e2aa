/- What draws a text: of, l3Word, l15Many. -/
import Derived.Test.YtlchipjckgaclaaDoorG13
namespace Go.Proofs.YtlchipjckgaclaaDoor
set_option linter.unusedSimpArgs false
set_option linter.unusedVariables false
set_option maxRecDepth 100000
open Go.RowKit

theorem of_c (g p b c : Nat) (zs : List ByteArray) (w : World) (h : Rd w g p) (hc : CellsAt w ⟨b, 0, none⟩ (zs.map fun z => .string z)) (hbg : b ≠ g) (hb : b < w.heap.size) (hl : 0 < zs.length) (hl2 : zs.length ≤ 1000000) (hp : p ≤ 1000000) :
    Calls Tryd.prog 70 #[.pointer (some ⟨g, 0, none⟩), .slice (some ⟨b, 0, none⟩) zs.length c] w fun e w' => ∃ r : ByteArray, e = .returned (.string r) ∧ r ∈ zs ∧ Rd w' g (p + 1) ∧ w.grownBy w' (some g) := by
  go_enter Tryd.func70, Tryd.ntmps70
  go_wp2_with fail
  refine (pick_c g p _ _ h (by omega) (by omega) hp).mono ?_
  rintro e w1 ⟨r, rfl, r0, r1, HR, HG⟩
  obtain ⟨k, rfl⟩ := Int.eq_ofNat_of_zero_le r0
  have hk : k < zs.length := by omega
  have c1 : w1.cell? ⟨b, k, none⟩ = some (.string zs[k]) := by
    have e0 : (⟨b, 0, none⟩ : Addr).add k = ⟨b, k, none⟩ := by unfold Addr.add; split <;> simp_all
    rw [World.cell?_of_block (w := w) (HG.block b hb (by simpa using hbg)), ← e0]
    exact hc k _ (by simp [hk])
  have hz := Lib.hid (List.getElem_mem hk)
  have hR := Lib.hid HR
  have hG := Lib.hid HG
  obtain ⟨z, hz1⟩ : ∃ z, zs[k] = z := ⟨_, rfl⟩
  rw [hz1] at c1 hz
  clear HR HG hz1
  go_wp2
  go_ret
  exact ⟨z, rfl, hz.out, hR.out, hG.out⟩

def LW : List ByteArray := [⟨#[97]⟩, ⟨#[98]⟩, ⟨#[97]⟩, ⟨#[98]⟩, ⟨#[99]⟩, ⟨#[120]⟩, ⟨#[48]⟩, ⟨#[97]⟩, ⟨#[98]⟩, ⟨#[97]⟩, ⟨#[98]⟩, ⟨#[255]⟩, ⟨#[0]⟩]
theorem LW_size {s : ByteArray} (h : s ∈ LW) : s.size = 1 := by
  simp only [LW, List.mem_cons, List.mem_nil_iff, or_false] at h
  rcases h with h | h | h | h | h | h | h | h | h | h | h | h | h <;> rw [h] <;> rfl
theorem strs_new (w : World) (zs : List ByteArray) (t : TypeId) : CellsAt (w.alloc (.cells (zs.map fun z => Value.string z).toArray t)) ⟨w.heap.size, 0, none⟩ (zs.map fun z => .string z) := new_cells w _ t

end Go.Proofs.YtlchipjckgaclaaDoor
