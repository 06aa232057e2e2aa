/- same, the two SetSame, the two MatchWord. -/
import Derived.Test.YtlchipjckgaclaaDoorW2
import Derived.Test.YtlchipjckgaclaaDoorOwn
import Derived.Laws.StructEq
namespace Go.Proofs.YtlchipjckgaclaaDoor
set_option linter.unusedSimpArgs false
set_option linter.unusedVariables false
set_option maxRecDepth 100000
open Go.RowKit

theorem uSp : Tryd.prog.underlying TSp = some (.struct (Tryd.prog.fieldsOf TSp)) := by kernel_rfl
theorem sSp : Tryd.prog.stoodInHeld TSp = false := by kernel_rfl
theorem gSp : Tryd.prog.eqGuardType Tryd.prog.depth TSp = false := by kernel_rfl
theorem fSp : (Tryd.prog.fieldsOf TSp).toList.map (fun f => (f.name == "_", f.type, f.offset)) = [(false, 3, 0), (false, 3, 1)] := by kernel_rfl
theorem neqSp (x y : Sp) (w : World) : (binOp .neq TSp (.agg #[.int .i64 x.lo, .int .i64 x.hi]) (.agg #[.int .i64 y.lo, .int .i64 y.hi])).run Tryd.prog w = .ok (.bool (!decide (x = y))) w := by
  rw [run_neq_struct, run_equalIn_struct (P := Tryd.prog) w 9999 TSp _ _ uSp sSp]
  have hf := fSp
  generalize (Tryd.prog.fieldsOf TSp).toList = l at hf
  obtain ⟨f0, f1, rfl⟩ : ∃ f0 f1, l = [f0, f1] := by
    have := congrArg List.length hf
    rw [List.length_map] at this
    rcases l with _ | ⟨f0, _ | ⟨f1, _ | ⟨f2, l⟩⟩⟩ <;> simp at this
    exact ⟨f0, f1, rfl⟩
  · simp only [List.map_cons, List.map_nil, List.cons.injEq, Prod.mk.injEq, and_true] at hf
    obtain ⟨⟨n0, t0, o0⟩, n1, t1, o1⟩ := hf
    have n0' : ¬ f0.name = "_" := by simpa using n0
    have n1' : ¬ f1.name = "_" := by simpa using n1
    have p0 : ∀ a b : Int, (part 3 #[.int .i64 a, .int .i64 b] 0).run Tryd.prog w = .ok (.int .i64 a) w := by
      intro a b
      kernel_rfl
    have p1 : ∀ a b : Int, (part 3 #[.int .i64 a, .int .i64 b] 1).run Tryd.prog w = .ok (.int .i64 b) w := by
      intro a b
      kernel_rfl
    have q : ∀ a b : Int, (Op.equalIn 9999 3 (.int .i64 a) (.int .i64 b)).run Tryd.prog w = .ok (a == b) w := fun a b => run_equalIn_int w 9998 _ _ .i64 a b Tryd.underlying3
    simp only [Op.eqFields, ne_eq, n0', n1', not_false_eq_true, if_true, Sem.run_bind, t0, t1, o0, o1, p0, p1, q, Result.andThen_ok]
    by_cases c0 : x.lo = y.lo
    · by_cases c1 : x.hi = y.hi
      · have e : x = y := by cases x; cases y; simp at c0 c1; rw [c0, c1]
        subst e
        simp [p1, q]
      · have e : x ≠ y := by rintro rfl; exact c1 rfl
        simp [c0, c1, e, p1, q]
    · have e : x ≠ y := by rintro rfl; exact c0 rfl
      simp [c0, e]

set_option maxHeartbeats 1000000 in
theorem same_c (A B : Option Addr) (c d : Nat) (xs ys : List Sp) (w : World) {lo lo' : Nat} (h : Sps w lo A c xs) (h' : Sps w lo' B d ys) :
    Calls Tryd.prog 53 #[.slice A xs.length c, .slice B ys.length d] w fun e w' => e = .returned (.bool (decide (xs = ys))) ∧ Drawn w w' := by
  have hlen := h.len
  have hlen' := h'.len
  unfold maxN at hlen hlen'
  by_cases he : xs.length = ys.length
  · have b1 : ((xs.length : Int) != (ys.length : Int)) = false := by simp [he]
    have HE : Hid (xs.length = ys.length) := he
    clear he
    go_enter Tryd.func53, Tryd.ntmps53
    go_wp2
    go_loopg [13] (xs.length) (fun n i wr => ∃ k : Nat, k + n = xs.length ∧ i = .int .i64 k ∧ Hid (decide (xs.drop k = ys.drop k) = decide (xs = ys)) ∧ Drawn w wr)
    case atStart => exact ⟨0, by omega, rfl, by rw [List.drop_zero, List.drop_zero]; rfl, Drawn.refl _⟩
    case round =>
      obtain ⟨k, hk, rfl, HS, m, rfl⟩ := hrel
      by_cases hlt : k < xs.length
      · have hlt' : k < ys.length := by have := HE.out; omega
        obtain ⟨a, x, rfl, _, HD, h0, h1⟩ := h.at_ k hlt
        obtain ⟨a', y, rfl, _, HD', h0', h1'⟩ := h'.at_ k hlt'
        have ST : Hid _ := drop_eq_step HD.out HD'.out HS.out
        have N0 := fun wx => neqSp x y wx
        have N1 := gSp
        go_wp2
        go_quiet (fail)
        go_wp2
        · go_ret
          exact ⟨ret_bool (ST.out.1 (by simpa using ‹(!decide (x = y)) = true›)).symm, drewN_drewN _ _ _⟩
        · go_roundg (gk - 1)
          case rel => exact ⟨k + 1, by omega, by go_num, ST.out.2 (by simpa using ‹(!decide (x = y)) = false›), ⟨_, rfl⟩⟩
          case measure => omega
      · go_wp2
        go_ret
        exact ⟨ret_bool (by rw [← HS.out, List.drop_of_length_le (by omega), List.drop_of_length_le (by have := HE.out; omega)]; rfl), _, rfl⟩
  · have b1 : ((xs.length : Int) != (ys.length : Int)) = true := by simp; omega
    have b2 : (xs.length == ys.length) = false := by simp [he]
    have C : Hid (decide (xs = ys) = false) := decide_eq_false (by rintro rfl; exact he rfl)
    clear he
    go_enter Tryd.func53, Tryd.ntmps53
    go_wp2
    go_ret
    exact ⟨ret_bool C.out.symm, Drawn.refl _⟩

end Go.Proofs.YtlchipjckgaclaaDoor
