/- copied, at spans: the same cells in new memory. -/
import Derived.Test.YtlchipjckgaclaaDoorBlk
namespace Go.Proofs.YtlchipjckgaclaaDoor
set_option linter.unusedSimpArgs false
set_option linter.unusedVariables false
set_option maxRecDepth 100000
open Go.RowKit

theorem sizeSp : (Tryd.prog.info? TSp).map (·.size) = some 2 := by kernel_rfl
/-- a row copied: the same cells in new memory -/
theorem copiedSpan_c (A : Option Addr) (c n : Nat) (cs : List Value) (w : World) {lo : Nat} (h : Row w lo A cs) (hn : cs.length = n * 2) (h1 : ∀ u ∈ cs, u.oneCell' = true) (hx : n * 16 ≤ 140737488355328) :
    Calls Tryd.prog 66 #[.slice A n c] w fun e w' => ∃ v, e = .returned v ∧ w'.ownsRow w.heap.size TSp 2 v n cs ∧ Below w.heap.size w w' := by
  by_cases h0 : n = 0
  · subst h0
    go_enter Tryd.func66, Tryd.ntmps66
    go_wp2
    go_ret
    have : cs = [] := by simpa using hn
    subst this
    exact ⟨_, rfl, World.ownsRow_nil _ _ _ _, Below.refl _ _⟩
  · obtain ⟨i0, hi, hz0, hz1, hz2⟩ := info_parts infoSp
    have b0 : ((n : Int) == 0) = false := by simp [h0]
    have h0' : 0 < n := by omega
    clear h0
    rcases h with rfl | ⟨ad, rfl, _, hc⟩
    · simp at hn; omega
    have HN : Hid (cs.length = n * 2) := hn
    clear hn
    go_enter Tryd.func66, Tryd.ntmps66
    go_wp2_with (first
      | (at_make; refine wpList_make_full _ rfl (.tmp 8) (.tmp 8) 25 rfl w.heap.size TSp i0 (.agg #[.int .i64 0, .int .i64 0]) 2 Tryd.underlying25 hi hz0 hz1 .i64 .i64 _ _ n rfl rfl rfl rfl (by rw [hz2]; omega) (by unfold maxLen; omega) (Nat.le_refl _) ?_; intro w1 hown hgrow; obtain ⟨cur, hB, hsz, _⟩ := own_blk hown; have hb1 := (Below.refl _ w).grown hgrow (Nat.le_refl _) (fun k hk => by cases hk); have hc1 := hc.below hb1; clear hown hgrow; have HS : Hid (cur.size = n * 2) := hsz; clear hsz)
      | (with_reducible refine ev_copy (o := ⟨some 12, _, _, _, _, _⟩) rfl (.tmp 10) (.tmp 11) _ _ rfl TSp Tryd.underlying25 2 sizeSp w.heap.size n n _ ad rfl rfl cur TSp hB cs HN.out hc1 (by rw [HN.out, HS.out]; exact Nat.le_refl _) h1 ?_; intro w2 hB2 hg2))
    go_ret
    have e : cur.toList.drop cs.length = [] := List.drop_of_length_le (by rw [Array.length_toList, HN.out, HS.out]; exact Nat.le_refl _)
    rw [e, List.append_nil] at hB2
    exact ⟨_, rfl, own_of_blk hB2 HN.out (Nat.le_refl _) (by unfold maxLen; omega), hb1.grown hg2 hb1.size (fun k hk => by injection hk with hk; omega)⟩

end Go.Proofs.YtlchipjckgaclaaDoor
