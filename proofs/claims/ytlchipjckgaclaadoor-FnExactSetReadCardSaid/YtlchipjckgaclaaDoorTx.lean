/- Numbers and sets as texts: plain; l15Dec of the reference. -/
import Derived.Test.YtlchipjckgaclaaDoorSets
import Derived.Test.YtlchipjckgaclaaDoorLib
import Derived.Test.YtlchipjckgaclaaDoorW1h
import Derived.Lib.ItoaMem
import Derived.Lib.ItoaLen
import Derived.Lib.Join
import Derived.Laws.IdiomStrings
namespace Go.Proofs.YtlchipjckgaclaaDoor
set_option linter.unusedSimpArgs false
set_option linter.unusedVariables false
set_option maxRecDepth 100000
open Go.RowKit

def str (l : List UInt8) : ByteArray := ⟨l.toArray⟩
theorem str_append (a b : List UInt8) : str a ++ str b = str (a ++ b) := by
  apply ByteArray.ext
  simp [str]
theorem str_size (a : List UInt8) : (str a).size = a.length := by simp [str, ByteArray.size]
def in64 (n : Int) : Prop := -9223372036854775808 ≤ n ∧ n ≤ 9223372036854775807
/-- the digits of u, ahead of what there is -/
theorem dec_step {u : Nat} (h : 9 < u) (l : List UInt8) : Lib.decDigits (u / 10) ++ (UInt8.ofNat (48 + u % 10) :: l) = Lib.decDigits u ++ l := by
  rw [show Lib.decDigits u = Lib.decDigits (u / 10) ++ [UInt8.ofNat (48 + u % 10)] by rw [Lib.decDigits, dif_neg (by omega)]]
  simp
theorem dec_last {u : Nat} (h : ¬ 9 < u) (l : List UInt8) : UInt8.ofNat (48 + u) :: l = Lib.decDigits u ++ l := by
  rw [Lib.decDigits, dif_pos (by omega)]
  rfl
theorem dec_len {u : Nat} (h : u ≤ 9223372036854775808) : (Lib.decDigits u).length ≤ 21 := by
  rw [Lib.decDigits_length]
  have := Lib.nDigits_le20 u (by omega)
  omega

/-- one byte as a text -/
theorem conv1 (w : World) (d : UInt8) (z : Int) (hz : z = (d.toNat : Int)) : (convert 40 9 (.slice (some ⟨w.heap.size, 0, none⟩) 1 1)).run Tryd.prog (w.alloc (.cells #[.int .u8 z] 5)) = .ok (.string (str [d])) (w.alloc (.cells #[.int .u8 z] 5)) := by
  refine run_convert_bytes_back _ _ _ 5 ⟨w.heap.size, 0, none⟩ 1 [d] Tryd.underlying40 Tryd.underlying5 Tryd.underlying9 fun j hj => ?_
  have h0 : j = 0 := by simpa using hj
  subst h0
  subst hz
  have e0 : (⟨w.heap.size, 0, none⟩ : Addr).add 0 = ⟨w.heap.size, 0, none⟩ := by simp [Addr.add]
  rw [e0, cell_of_row (w.alloc (.cells #[.int .u8 (d.toNat : Int)] 5)) w.heap.size 0 #[.int .u8 (d.toNat : Int)] 5 (0, 0) (heap_alloc_new w _)]
  rfl
theorem digit (n : Nat) (hn : n < 10) : ∃ d : UInt8, d = UInt8.ofNat (48 + n) ∧ (48 : Int) + n = (d.toNat : Int) := ⟨_, rfl, by simp; omega⟩

set_option maxRecDepth 100000 in
set_option maxHeartbeats 1000000 in
theorem sDecPos_c (u : Nat) (w : World) (h : u ≤ 9223372036854775807) :
    Calls Tryd.prog 41 #[.int .i64 (u : Int)] w fun e w' => e = .returned (.string (str (Lib.decDigits u))) ∧ Below w.heap.size w w' := by
  have hl := dec_len (u := u) (by omega)
  go_enter Tryd.func41, Tryd.ntmps41
  have g1 : ¬ ((u : Int) < -9223372036854775807) := by omega
  have g2 : ¬ ((u : Int) < 0) := by omega
  go_wp2_with fail
  clear g1 g2
  go_loopg [0, 3] u (fun n v0 v3 wr => v0 = .int .i64 (n : Int) ∧ n ≤ u ∧ ∃ l : List UInt8, v3 = .string (str l) ∧ Hid (Lib.decDigits n ++ l = Lib.decDigits u) ∧ Hid (Below w.heap.size w wr))
  case atStart => exact ⟨rfl, Nat.le_refl _, [], rfl, by show _ = _; rw [List.append_nil], Below.refl _ _⟩
  case round =>
    obtain ⟨rfl, hgu, l, rfl, HL, HB⟩ := hrel
    by_cases hlt : 9 < gk
    · have g1 : (9 : Int) < (gk : Int) := by omega
      obtain ⟨d, hd, hz⟩ := digit (gk % 10) (by omega)
      have HD := Lib.hid hd
      have hcv := Lib.hid (conv1 wr d (48 + (gk : Int) % 10) (by omega))
      have hll : l.length ≤ 21 := by have := congrArg List.length HL.out; rw [List.length_append] at this; omega
      have hs1 := str_size l
      have hs2 : (str [d]).size = 1 := str_size _
      have hw : wrap64 ((gk : Int) / 10) = ((gk / 10 : Nat) : Int) := by rw [Go.IntWalk.wrap64_in _ (by omega)]; rfl
      clear hd hz
      go_wp2_with fail
      rw [hcv.out]
      clear hcv
      go_wp2_with fail
      go_roundg (gk / 10)
      case measure => omega
      case rel =>
        refine ⟨?_, by omega, d :: l, ?_, ?_, below_alloc HB.out _⟩
        · go_num
        · rw [str_append]; rfl
        · show _ = _; rw [HD.out, dec_step hlt, HL.out]
    · obtain ⟨d, hd, hz⟩ := digit gk (by omega)
      have HD := Lib.hid hd
      have hcv := Lib.hid (conv1 wr d (48 + (gk : Int)) (by omega))
      have hll : l.length ≤ 21 := by have := congrArg List.length HL.out; rw [List.length_append] at this; omega
      have hs1 := str_size l
      have hs2 : (str [d]).size = 1 := str_size _
      clear hd hz
      go_wp2_with fail
      rw [hcv.out]
      clear hcv
      go_wp2_with fail
      go_ret
      refine ⟨?_, below_alloc HB.out _⟩
      rw [← HL.out, ← dec_last hlt, ← HD.out]
      exact congrArg (fun x => Ending.returned (Value.string x)) (str_append [d] l)

set_option maxRecDepth 100000 in
set_option maxHeartbeats 1000000 in
theorem sDec_c (n : Int) (w : World) (h : in64 n) :
    Calls Tryd.prog 41 #[.int .i64 n] w fun e w' => e = .returned (.string (str (Lib.itoa n))) ∧ Below w.heap.size w w' := by
  by_cases h0 : 0 ≤ n
  · obtain ⟨u, rfl⟩ : ∃ u : Nat, n = u := ⟨n.toNat, by omega⟩
    rw [Lib.itoa_nonneg]
    exact sDecPos_c u w (by have := h.2; omega)
  · obtain ⟨u, rfl⟩ : ∃ u : Nat, n = -(u : Int) := ⟨n.natAbs, by omega⟩
    have hu : 1 ≤ u := by omega
    have hu2 : u ≤ 9223372036854775808 := by have := h.1; omega
    have E := Lib.hid (Lib.itoa_neg u hu)
    by_cases h1 : u = 9223372036854775808
    · subst h1
      go_enter Tryd.func41, Tryd.ntmps41
      go_wp2_with fail
      go_ret
      refine ⟨?_, Below.refl _ _⟩
      have e : Lib.itoa (-9223372036854775808) = [45, 57, 50, 50, 51, 51, 55, 50, 48, 51, 54, 56, 53, 52, 55, 55, 53, 56, 48, 56] := by decide +kernel
      rw [e]
      rfl
    · have g1 : ¬ (-(u : Int) < -9223372036854775807) := by omega
      have g2 : -(u : Int) < 0 := by omega
      have hn : IntKind.i64.wrap (- -(u : Int)) = (u : Int) := by rw [Int.neg_neg]; exact IntWalk.i64_in _ (by omega)
      have hl := dec_len (u := u) hu2
      go_enter Tryd.func41, Tryd.ntmps41
      go_wp2_with fail
      refine (sDecPos_c u w (by omega)).mono ?_
      rintro e w1 ⟨rfl, b1⟩
      have hs1 := str_size (Lib.decDigits u)
      clear g1 g2 hn
      go_wp2_with fail
      go_ret
      refine ⟨?_, b1⟩
      rw [E.out]
      exact congrArg (fun x => Ending.returned (Value.string x)) (str_append [45] _)

end Go.Proofs.YtlchipjckgaclaaDoor
