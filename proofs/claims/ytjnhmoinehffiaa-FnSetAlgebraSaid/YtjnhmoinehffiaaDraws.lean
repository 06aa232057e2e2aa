/- Draws of the laws on sets. (Printed by wip/gen/setlaws.py.) -/
import Derived.Test.YtjnhmoinehffiaaDr2
namespace Go.Proofs.Ytjnhmoinehffiaa
set_option linter.unusedSimpArgs false
set_option linter.unusedVariables false
open Go.RowKit

theorem drawSetJoin_c (A : Option Addr) (c : Nat) (bs : List Int) (w : World) (h : Bys w 0 A c bs) :
    Calls Try.prog 22 #[.slice A bs.length c] w fun e w' => ∃ xs ys v u, e = .returned (.tuple #[v, u]) ∧ OwnSp w' w.heap.size v xs ∧ OwnSp w' w.heap.size u ys ∧ xs.length ≤ 300 ∧ ys.length ≤ 300 ∧ Below w.heap.size w w' := by
  go_enter Try.func22, Try.ntmps22
  go_wp2_with fail
  refine (l1Two_c _ _ _ _ h).mono ?_
  rintro e w1 ⟨xs, ys, v, u, rfl, o1, o2, l1, l2, b1⟩
  go_wp2
  exact bodyPost_ret (v := .tuple #[v, u]) (by simp [results, Try.results22, go_sem]) rfl ⟨xs, ys, v, u, rfl, o1, o2, l1, l2, b1⟩

theorem drawSetMeet_c (A : Option Addr) (c : Nat) (bs : List Int) (w : World) (h : Bys w 0 A c bs) :
    Calls Try.prog 8 #[.slice A bs.length c] w fun e w' => ∃ xs ys v u, e = .returned (.tuple #[v, u]) ∧ OwnSp w' w.heap.size v xs ∧ OwnSp w' w.heap.size u ys ∧ xs.length ≤ 300 ∧ ys.length ≤ 300 ∧ Below w.heap.size w w' := by
  go_enter Try.func8, Try.ntmps8
  go_wp2_with fail
  refine (l1Two_c _ _ _ _ h).mono ?_
  rintro e w1 ⟨xs, ys, v, u, rfl, o1, o2, l1, l2, b1⟩
  go_wp2
  exact bodyPost_ret (v := .tuple #[v, u]) (by simp [results, Try.results8, go_sem]) rfl ⟨xs, ys, v, u, rfl, o1, o2, l1, l2, b1⟩

set_option maxHeartbeats 2000000 in
theorem drawSetFirst_c (A : Option Addr) (c : Nat) (bs : List Int) (w : World) (h : Bys w 0 A c bs) :
    Calls Try.prog 16 #[.slice A bs.length c] w fun e w' => ∃ xs v, e = .returned v ∧ OwnSp w' w.heap.size v xs ∧ xs.length ≤ 300 ∧ Below w.heap.size w w' := by
  go_enter Try.func16, Try.ntmps16
  go_wp2_with fail
  refine (open_c _ _ _ _ h).mono ?_
  rintro e w1 ⟨g, rfl, HR, hg, b1⟩
  go_wp2_with fail
  refine (l1Bent_c g 0 _ HR (by omega)).mono ?_
  rintro e w2 ⟨xs, v, q, rfl, o, _, hl, _, _, hG⟩
  go_wp2
  go_ret
  exact ⟨xs, v, rfl, o.lower b1.size, hl, b1.grown hG b1.size (fun k hk => by injection hk with hk; omega)⟩

end Go.Proofs.Ytjnhmoinehffiaa
