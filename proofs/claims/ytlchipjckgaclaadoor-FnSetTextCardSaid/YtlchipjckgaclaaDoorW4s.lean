/- SetSame of the reference. -/
import Derived.Test.YtlchipjckgaclaaDoorG9
namespace Go.Proofs.YtlchipjckgaclaaDoor
set_option linter.unusedSimpArgs false
set_option linter.unusedVariables false
set_option maxRecDepth 100000
open Go.RowKit

set_option maxHeartbeats 1000000 in
theorem sSetSame_c (A B : Option Addr) (c d : Nat) (xs ys : List Sp) (w : World) {lo lo' : Nat} (h : Sps w lo A c xs) (h' : Sps w lo' B d ys) :
    Calls Tryd.prog 33 #[.slice A xs.length c, .slice B ys.length d] w fun e w' => e = .returned (.bool (decide (xs = ys))) ∧ Drawn w w' := by
  have hlen := h.len
  have hlen' := h'.len
  unfold maxN at hlen hlen'
  by_cases he : xs.length = ys.length
  · have b1 : ((xs.length : Int) != (ys.length : Int)) = false := by simp [he]
    have HE : Hid (xs.length = ys.length) := he
    clear he
    go_enter Tryd.func33, Tryd.ntmps33
    go_wp2
    go_loopg [5] (xs.length) (fun n i wr => ∃ k : Nat, k + n = xs.length ∧ i = .int .i64 k ∧ Hid (decide (xs.drop k = ys.drop k) = decide (xs = ys)) ∧ Drawn w wr)
    case atStart => exact ⟨0, by omega, rfl, by rw [List.drop_zero, List.drop_zero]; rfl, Drawn.refl _⟩
    case round =>
      obtain ⟨k, hk, rfl, HS, m, rfl⟩ := hrel
      by_cases hlt : k < xs.length
      · have hlt' : k < ys.length := by have := HE.out; omega
        obtain ⟨a, x, rfl, _, HD, h0, h1⟩ := h.at_ k hlt
        obtain ⟨a', y, rfl, _, HD', h0', h1'⟩ := h'.at_ k hlt'
        have ST : Hid _ := drop_eq_step HD.out HD'.out HS.out
        have N0 := fun wx => neqSp x y wx
        have N1 := gSp
        go_wp2
        go_quiet (fail)
        go_wp2
        · go_ret
          exact ⟨ret_bool (ST.out.1 (by simpa using ‹(!decide (x = y)) = true›)).symm, drewN_drewN _ _ _⟩
        · go_roundg (gk - 1)
          case rel => exact ⟨k + 1, by omega, by go_num, ST.out.2 (by simpa using ‹(!decide (x = y)) = false›), ⟨_, rfl⟩⟩
          case measure => omega
      · go_wp2
        go_ret
        exact ⟨ret_bool (by rw [← HS.out, List.drop_of_length_le (by omega), List.drop_of_length_le (by have := HE.out; omega)]; rfl), _, rfl⟩
  · have b1 : ((xs.length : Int) != (ys.length : Int)) = true := by simp; omega
    have b2 : (xs.length == ys.length) = false := by simp [he]
    have C : Hid (decide (xs = ys) = false) := decide_eq_false (by rintro rfl; exact he rfl)
    clear he
    go_enter Tryd.func33, Tryd.ntmps33
    go_wp2
    go_ret
    exact ⟨ret_bool C.out.symm, Drawn.refl _⟩

end Go.Proofs.YtlchipjckgaclaaDoor
