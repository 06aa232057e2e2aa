/- bitsOf: the bits of a set. -/
import Derived.Test.YtjnhmoinehffiaaBits
namespace Go.Proofs.Ytjnhmoinehffiaa
set_option linter.unusedSimpArgs false
set_option linter.unusedVariables false
open Go.RowKit

theorem bit_cell {w : World} {g : Nat} {f : Nat → Bool} (h : Blk w g (bitCells f).toArray TBits) (k : Nat) (hk : k < 256) : w.cell? ⟨g, k, none⟩ = some (.bool (f k)) := by
  rw [h.cell]
  simpa using bitCells_get f k hk
theorem bit_set {w : World} {g : Nat} {f : Nat → Bool} (h : Blk w g (bitCells f).toArray TBits) (k : Nat) (b : Bool) : Blk (w.setCell ⟨g, k, none⟩ (.bool b)) g (bitCells fun i => if i = k then b else f i).toArray TBits := by
  have := h.set k (.bool b)
  rw [show (bitCells f).toArray.setIfInBounds k (.bool b) = ((bitCells f).set k (.bool b)).toArray by simp, bitCells_set] at this
  exact this

set_option maxHeartbeats 1000000 in
set_option maxRecDepth 100000 in
theorem bitsOf_c (A : Option Addr) (c : Nat) (xs : List Sp) (w : World) {lo : Nat} (h : Sps w lo A c xs) :
    Calls Try.prog 39 #[.slice A xs.length c] w fun e w' => e = .returned (.agg (bitCells fun i => setHas xs i).toArray) ∧ Below w.heap.size w w' := by
  go_enter Try.func39, Try.ntmps39
  go_wp2_with (first
    | (with_reducible refine ev_alloc (o := ⟨some 2, _, _, _, _, _⟩) rfl TBits rfl _ infoBits ?_; rintro _ w2 rfl hB2 hb2)
    | (with_reducible refine ev_alloc (o := ⟨some 3, _, _, _, _, _⟩) rfl TBits rfl _ infoBits ?_; rintro _ w3 rfl hB3 hb3))
  have HR : Hid (Blk w3 w.heap.size (bitCells fun _ => false).toArray TBits) := hB2.below hb3
  have HB : Hid (Below w.heap.size w w3) := below_then hb2 hb3
  have HO : Hid (Blk w3 w2.heap.size (bitCells fun _ => false).toArray TBits) := hB3
  have hlt := hB2.lt
  clear hB2 hB3 hb2 hb3
  go_loopg [5] 256 (fun n i wr => ∃ k : Nat, Hid (k + n = 256) ∧ i = .int .i64 k ∧ ∃ f : Nat → Bool, Hid (Blk wr w2.heap.size (bitCells f).toArray TBits) ∧ Hid (∀ j, j < k → f j = setHas xs j) ∧ Hid (Blk wr w.heap.size (bitCells fun _ => false).toArray TBits) ∧ Hid (Below w.heap.size w wr))
  case atStart => exact ⟨0, rfl, rfl, _, HO, fun j hj => absurd hj (Nat.not_lt_zero _), HR, HB⟩
  case round =>
    clear HO HR HB
    obtain ⟨k, hk, rfl, f, HO, HF, HR, HB⟩ := hrel
    by_cases hk2 : k < 256
    · go_wp2_with fail
      refine (iSetHas_c _ _ _ _ _ (h.below HB.out)).mono ?_
      rintro e w4 ⟨rfl, hb⟩
      have HO2 : Hid _ := HO.out.below hb
      have HR2 : Hid _ := HR.out.below hb
      have HB2 : Hid _ := below_then HB.out hb
      have c0 := bit_cell HO2.out k hk2
      have f0 := HO2.out.free k
      clear HO HR HB hb
      go_wp2
      go_roundg (gk - 1)
      case rel =>
        refine ⟨k + 1, by have := hk.out; show _ = _; omega, by go_num, _, bit_set HO2.out k _, ?_, HR2.out.far (by simp; omega) _, below_set HB2.out (by simp; omega) _⟩
        intro j hj
        by_cases e : j = k
        · rw [if_pos e, e]
        · rw [if_neg e]
          exact HF.out j (by omega)
      case measure => have := hk.out; omega
    · have hF : bitCells f = bitCells fun i => setHas xs i := bitCells_congr fun i hi => HF.out i (by omega)
      go_wp2_with (first
        | (with_reducible refine ev_load (o := ⟨some 14, _, _, _, _, _⟩) rfl TBits _ rfl w2.heap.size rfl (bitCells f) TBits HO.out _ uBits rfl (sizeBits' f) ?_)
        | (with_reducible refine ev_store (o := ⟨none, _, _, _, _, _⟩) rfl rfl TBits (.tmp 2) (.tmp 14) rfl w.heap.size 0 rfl (bitCells f) rfl (bitCells fun _ => false).toArray TBits HR.out (sizeBits' f) (by simp [bitCells_length]) (bitCells_one f) ?_; intro w5 hs hg))
      have hs' : Blk w5 w.heap.size (bitCells fun i => setHas xs i).toArray TBits := by
        rw [← hF]
        rw [List.take_zero, List.nil_append, List.drop_of_length_le (by rw [bitCells_length, bitCells_length]; omega), List.append_nil] at hs
        exact hs
      exact bodyPost_ret (results_cell_row rfl _ _ w.heap.size TBits _ (0, 0) _ rfl hs'.eq uBits rfl (by rw [sizeBits]; simp [bitCells_length])) rfl ⟨rfl, HB.out.grown hg HB.out.size (fun k hk => by injection hk with hk; omega)⟩

theorem sizeSp : (Try.prog.info? TSp).map (·.size) = some 2 := by kernel_rfl
/-- a row copied: the same cells in new memory -/
theorem copiedSpan_c (A : Option Addr) (c n : Nat) (cs : List Value) (w : World) {lo : Nat} (h : Row w lo A cs) (hn : cs.length = n * 2) (h1 : ∀ u ∈ cs, u.oneCell' = true) (hx : n * 16 ≤ 140737488355328) :
    Calls Try.prog 53 #[.slice A n c] w fun e w' => ∃ v, e = .returned v ∧ w'.ownsRow w.heap.size TSp 2 v n cs ∧ Below w.heap.size w w' := by
  by_cases h0 : n = 0
  · subst h0
    go_enter Try.func53, Try.ntmps53
    go_wp2
    go_ret
    have : cs = [] := by simpa using hn
    subst this
    exact ⟨_, rfl, World.ownsRow_nil _ _ _ _, Below.refl _ _⟩
  · obtain ⟨i0, hi, hz0, hz1, hz2⟩ := info_parts infoSp
    have b0 : ((n : Int) == 0) = false := by simp [h0]
    have h0' : 0 < n := by omega
    clear h0
    rcases h with rfl | ⟨ad, rfl, _, hc⟩
    · simp at hn; omega
    have HN : Hid (cs.length = n * 2) := hn
    clear hn
    go_enter Try.func53, Try.ntmps53
    go_wp2_with (first
      | (at_make; refine wpList_make_full _ rfl (.tmp 8) (.tmp 8) 23 rfl w.heap.size TSp i0 (.agg #[.int .i64 0, .int .i64 0]) 2 Try.underlying23 hi hz0 hz1 .i64 .i64 _ _ n rfl rfl rfl rfl (by rw [hz2]; omega) (by unfold maxLen; omega) (Nat.le_refl _) ?_; intro w1 hown hgrow; obtain ⟨cur, hB, hsz, _⟩ := own_blk hown; have hb1 := (Below.refl _ w).grown hgrow (Nat.le_refl _) (fun k hk => by cases hk); have hc1 := hc.below hb1; clear hown hgrow; have HS : Hid (cur.size = n * 2) := hsz; clear hsz)
      | (with_reducible refine ev_copy (o := ⟨some 12, _, _, _, _, _⟩) rfl (.tmp 10) (.tmp 11) _ _ rfl TSp Try.underlying23 2 sizeSp w.heap.size n n _ ad rfl rfl cur TSp hB cs HN.out hc1 (by rw [HN.out, HS.out]; exact Nat.le_refl _) h1 ?_; intro w2 hB2 hg2))
    go_ret
    have e : cur.toList.drop cs.length = [] := List.drop_of_length_le (by rw [Array.length_toList, HN.out, HS.out]; exact Nat.le_refl _)
    rw [e, List.append_nil] at hB2
    exact ⟨_, rfl, own_of_blk hB2 HN.out (Nat.le_refl _) (by unfold maxLen; omega), hb1.grown hg2 hb1.size (fun k hk => by injection hk with hk; omega)⟩

end Go.Proofs.Ytjnhmoinehffiaa
