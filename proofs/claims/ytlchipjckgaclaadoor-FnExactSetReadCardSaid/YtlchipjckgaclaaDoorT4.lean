/- How many kids a kind has, of the reference and of the program. (Printed by wip/gen/kids.py.) -/
import Derived.Test.YtlchipjckgaclaaDoorT1
namespace Go.Proofs.YtlchipjckgaclaaDoor
set_option linter.unusedSimpArgs false
set_option linter.unusedVariables false
set_option maxRecDepth 100000
open Go.RowKit

theorem kids0 {k : Int} (h : k = 1 ∨ k = 2) : kidsOf k = 0 := by unfold kidsOf; rw [if_pos h]
theorem kids1 {k : Int} (h : k = 5 ∨ k = 7) : kidsOf k = 1 := by unfold kidsOf; rw [if_neg (by omega), if_pos h]
theorem kids2 {k : Int} (h : k = 3 ∨ k = 4 ∨ k = 6) : kidsOf k = 2 := by unfold kidsOf; rw [if_neg (by omega), if_neg (by omega), if_pos h]
theorem kidsN {k : Int} (h : ¬ (k = 1 ∨ k = 2 ∨ k = 3 ∨ k = 4 ∨ k = 5 ∨ k = 6 ∨ k = 7)) : kidsOf k = -1 := by unfold kidsOf; rw [if_neg (by omega), if_neg (by omega), if_neg (by omega)]

theorem sKids_c (k : Int) (w : World) : Calls Tryd.prog 86 #[.int .i64 k] w fun e w' => e = .returned (.int .i64 (kidsOf k)) ∧ w = w' := by
  by_cases e1 : k = 1
  · subst e1
    rw [kids0 (.inl rfl)]
    go_enter Tryd.func86, Tryd.ntmps86
    go_wp2
    go_ret
    exact ⟨rfl, rfl⟩
  have d1 : (k == 1) = false := by simp [e1]
  by_cases e2 : k = 2
  · subst e2
    rw [kids0 (.inr rfl)]
    go_enter Tryd.func86, Tryd.ntmps86
    go_wp2
    go_ret
    exact ⟨rfl, rfl⟩
  have d2 : (k == 2) = false := by simp [e2]
  by_cases e5 : k = 5
  · subst e5
    rw [kids1 (.inl rfl)]
    go_enter Tryd.func86, Tryd.ntmps86
    go_wp2
    go_ret
    exact ⟨rfl, rfl⟩
  have d5 : (k == 5) = false := by simp [e5]
  by_cases e7 : k = 7
  · subst e7
    rw [kids1 (.inr rfl)]
    go_enter Tryd.func86, Tryd.ntmps86
    go_wp2
    go_ret
    exact ⟨rfl, rfl⟩
  have d7 : (k == 7) = false := by simp [e7]
  by_cases e3 : k = 3
  · subst e3
    rw [kids2 (.inl rfl)]
    go_enter Tryd.func86, Tryd.ntmps86
    go_wp2
    go_ret
    exact ⟨rfl, rfl⟩
  have d3 : (k == 3) = false := by simp [e3]
  by_cases e4 : k = 4
  · subst e4
    rw [kids2 (.inr (.inl rfl))]
    go_enter Tryd.func86, Tryd.ntmps86
    go_wp2
    go_ret
    exact ⟨rfl, rfl⟩
  have d4 : (k == 4) = false := by simp [e4]
  by_cases e6 : k = 6
  · subst e6
    rw [kids2 (.inr (.inr rfl))]
    go_enter Tryd.func86, Tryd.ntmps86
    go_wp2
    go_ret
    exact ⟨rfl, rfl⟩
  have d6 : (k == 6) = false := by simp [e6]
  rw [kidsN (by omega)]
  go_enter Tryd.func86, Tryd.ntmps86
  go_wp2
  go_ret
  exact ⟨rfl, rfl⟩

theorem iKids_c (k : Int) (w : World) : Calls Tryd.prog 87 #[.int .i64 k] w fun e w' => e = .returned (.int .i64 (kidsOf k)) ∧ w = w' := by
  by_cases e1 : k = 1
  · subst e1
    rw [kids0 (.inl rfl)]
    go_enter Tryd.func87, Tryd.ntmps87
    go_wp2
    go_ret
    exact ⟨rfl, rfl⟩
  have d1 : (k == 1) = false := by simp [e1]
  by_cases e2 : k = 2
  · subst e2
    rw [kids0 (.inr rfl)]
    go_enter Tryd.func87, Tryd.ntmps87
    go_wp2
    go_ret
    exact ⟨rfl, rfl⟩
  have d2 : (k == 2) = false := by simp [e2]
  by_cases e5 : k = 5
  · subst e5
    rw [kids1 (.inl rfl)]
    go_enter Tryd.func87, Tryd.ntmps87
    go_wp2
    go_ret
    exact ⟨rfl, rfl⟩
  have d5 : (k == 5) = false := by simp [e5]
  by_cases e7 : k = 7
  · subst e7
    rw [kids1 (.inr rfl)]
    go_enter Tryd.func87, Tryd.ntmps87
    go_wp2
    go_ret
    exact ⟨rfl, rfl⟩
  have d7 : (k == 7) = false := by simp [e7]
  by_cases e3 : k = 3
  · subst e3
    rw [kids2 (.inl rfl)]
    go_enter Tryd.func87, Tryd.ntmps87
    go_wp2
    go_ret
    exact ⟨rfl, rfl⟩
  have d3 : (k == 3) = false := by simp [e3]
  by_cases e4 : k = 4
  · subst e4
    rw [kids2 (.inr (.inl rfl))]
    go_enter Tryd.func87, Tryd.ntmps87
    go_wp2
    go_ret
    exact ⟨rfl, rfl⟩
  have d4 : (k == 4) = false := by simp [e4]
  by_cases e6 : k = 6
  · subst e6
    rw [kids2 (.inr (.inr rfl))]
    go_enter Tryd.func87, Tryd.ntmps87
    go_wp2
    go_ret
    exact ⟨rfl, rfl⟩
  have d6 : (k == 6) = false := by simp [e6]
  rw [kidsN (by omega)]
  go_enter Tryd.func87, Tryd.ntmps87
  go_wp2
  go_ret
  exact ⟨rfl, rfl⟩

end Go.Proofs.YtlchipjckgaclaaDoor
