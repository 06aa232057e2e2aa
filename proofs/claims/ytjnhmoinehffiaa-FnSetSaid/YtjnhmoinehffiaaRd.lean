/- The reader of a code: pick, num, l15Open. -/
import Derived.Test.YtjnhmoinehffiaaBits
import Derived.Test.YtjnhmoinehffiaaW3
import Derived.Test.YtjnhmoinehffiaaBytes
import Derived.Laws.Bits64
namespace Go.Proofs.Ytjnhmoinehffiaa
set_option linter.unusedSimpArgs false
set_option linter.unusedVariables false
open Go.RowKit

abbrev TRd : Nat := 66
structure Rd (w : World) (g : Nat) (p : Nat) : Prop where
  ex : ∃ (A : Option Addr) (c : Nat) (bs : List Int), Blk w g #[.slice A bs.length c, .int .i64 p] TRd ∧ Bys w 0 A c bs ∧ (bs ≠ [] → ∀ a, A = some a → a.block < g) ∧ bs.length ≤ 2000
theorem CellsAt.moved {w w' : World} {a : Addr} {cs : List Value} (h : CellsAt w a cs) (he : w'.heap[a.block]? = w.heap[a.block]?) : CellsAt w' a cs := by
  intro j u hj
  have e : (a.add j).block = a.block := by unfold Addr.add; split <;> rfl
  rw [World.cell?_of_block (w := w) (by rw [e]; exact he)]
  exact h j u hj
theorem Rd.lt {w : World} {g p : Nat} (h : Rd w g p) : g < w.heap.size := by
  obtain ⟨A, c, bs, h1, _⟩ := h.ex
  exact h1.lt
theorem Rd.keep {w w' : World} {g p : Nat} (h : Rd w g p) (hk : ∀ k, k ≤ g → w'.heap[k]? = w.heap[k]?) : Rd w' g p := by
  obtain ⟨A, c, bs, h1, h2, h3, h4⟩ := h.ex
  refine ⟨A, c, bs, ⟨(hk g (Nat.le_refl _)).trans h1.eq⟩, ⟨?_, h2.cap, h2.len, h2.byte⟩, h3, h4⟩
  rcases h2.row with h5 | ⟨a, e, h6, h7⟩
  · exact .inl h5
  · by_cases hb : bs = []
    · exact .inl (by rw [hb]; rfl)
    · exact .inr ⟨a, e, h6, CellsAt.moved h7 (hk _ (Nat.le_of_lt (h3 hb a e)))⟩
theorem Rd.grown {w w' : World} {g p : Nat} (h : Rd w g p) {row : Option Nat} (hg : w.grownBy w' row) (hr : ∀ k, row = some k → g < k) : Rd w' g p :=
  h.keep fun k hk => hg.block k (by have := h.lt; omega) (fun e => by have := hr k e.symm; omega)
theorem Rd.below {w w' : World} {g p : Nat} (h : Rd w g p) (hb : Below w.heap.size w w') : Rd w' g p :=
  h.keep fun k hk => hb.block k (by have := h.lt; omega)
theorem Rd.step {w : World} {g p : Nat} (h : Rd w g p) (q : Nat) : Rd (w.setCell ⟨g, 1, none⟩ (.int .i64 q)) g q := by
  obtain ⟨A, c, bs, h1, h2, h3, h4⟩ := h.ex
  refine ⟨A, c, bs, ?_, ⟨?_, h2.cap, h2.len, h2.byte⟩, h3, h4⟩
  · have := h1.set 1 (.int .i64 q)
    simpa using this
  · rcases h2.row with h5 | ⟨a, e, h6, h7⟩
    · exact .inl h5
    · by_cases hb : bs = []
      · exact .inl (by rw [hb]; rfl)
      · exact .inr ⟨a, e, h6, CellsAt.moved h7 (Below.heap_setCell w _ _ _ (by have := h3 hb a e; show a.block ≠ g; omega))⟩
theorem grown_then {w w1 w2 : World} {row : Option Nat} (h : w.grownBy w1 row) (k : w1.grownBy w2 row) : w.grownBy w2 row :=
  ⟨k.os.trans h.os, k.tape.trans h.tape, k.output.trans h.output, Nat.le_trans h.size k.size, fun i hi hne => (k.block i (Nat.lt_of_lt_of_le hi h.size) hne).trans (h.block i hi hne)⟩
theorem grown_below {w w1 : World} {row : Option Nat} (h : Below w.heap.size w w1) : w.grownBy w1 row :=
  ⟨h.os, h.tape, h.output, h.size, fun i hi _ => h.block i hi⟩

theorem i64_xor {a b : Int} (ha : 0 ≤ a) (ha' : a < 9223372036854775808) (hb : 0 ≤ b) (hb' : b < 9223372036854775808) : ∃ m : Nat, bits .xor .i64 a b = m ∧ m < 9223372036854775808 := by
  obtain ⟨x, rfl⟩ := Int.eq_ofNat_of_zero_le ha
  obtain ⟨y, rfl⟩ := Int.eq_ofNat_of_zero_le hb
  have hx : x ^^^ y < 2 ^ 63 := Nat.xor_lt_two_pow (by omega) (by omega)
  have h1 : (BitVec.ofInt 64 (x : Int)).toNat = x := by
    rw [BitVec.ofInt_natCast, BitVec.toNat_ofNat]; exact Nat.mod_eq_of_lt (by omega)
  have h2 : (BitVec.ofInt 64 (y : Int)).toNat = y := by
    rw [BitVec.ofInt_natCast, BitVec.toNat_ofNat]; exact Nat.mod_eq_of_lt (by omega)
  refine ⟨x ^^^ y, ?_, by omega⟩
  show IntKind.i64.wrap ((BitVec.ofInt 64 (x : Int) ^^^ BitVec.ofInt 64 (y : Int)).toNat : Int) = _
  rw [BitVec.toNat_xor, h1, h2]
  exact IntWalk.i64_in _ (by omega)

theorem Bys.at_ {w : World} {lo : Nat} {A : Option Addr} {c : Nat} {bs : List Int} (h : Bys w lo A c bs) (k : Nat) (hk : k < bs.length) :
    ∃ a z, A = some a ∧ w.cell? (a.add k) = some (.int .u8 z) ∧ 0 ≤ z ∧ z < 256 := by
  rcases h.row with h0 | ⟨a, e, _, hc⟩
  · have := congrArg List.length h0
    simp at this
    subst this
    simp at hk
  · have := h.byte bs[k] (List.getElem_mem hk)
    exact ⟨a, bs[k], e, hc k _ (by simp [hk]), this.1, this.2⟩

theorem tmod_lo {a n : Int} (h : 0 ≤ a) : 0 ≤ a.tmod n := Int.tmod_nonneg n h
theorem tmod_hi {a n : Int} (h : 1 ≤ n) : a.tmod n < n := Int.tmod_lt_of_pos a (by omega)
theorem tmod_nat (a n : Nat) (h : 0 < n) : ∃ k : Nat, (a : Int).tmod (n : Int) = k ∧ k < n := ⟨a % n, by rw [Int.ofNat_tmod], Nat.mod_lt _ h⟩
theorem tdiv_nat (a n : Nat) : ∃ k : Nat, (a : Int).tdiv (n : Int) = k ∧ k ≤ a := ⟨a / n, by rw [Int.ofNat_tdiv], Nat.div_le_self _ _⟩

set_option maxHeartbeats 2000000 in
theorem pick_c (g p : Nat) (n : Int) (w : World) (h : Rd w g p) (hn : 1 ≤ n) (hn2 : n ≤ 1000000) (hp : p ≤ 1000000) :
    Calls Try.prog 43 #[.pointer (some ⟨g, 0, none⟩), .int .i64 n] w fun e w' => ∃ r : Int, e = .returned (.int .i64 r) ∧ 0 ≤ r ∧ r < n ∧ Rd w' g (p + 1) ∧ w.grownBy w' (some g) := by
  obtain ⟨A, c, bs, h1, h2, h3, h4⟩ := h.ex
  have c0 : w.cell? ⟨g, 0, none⟩ = some (.slice A bs.length c) := by rw [h1.cell]; rfl
  have c1 : w.cell? ⟨g, 1, none⟩ = some (.int .i64 p) := by rw [h1.cell]; rfl
  have f1 : w.frozen? ⟨g, 1, none⟩ = false := h1.free 1
  have HR : Hid (Rd (w.setCell ⟨g, 1, none⟩ (.int .i64 ((p : Int) + 1))) g (p + 1)) := h.step (p + 1)
  have HG : Hid (w.grownBy (w.setCell ⟨g, 1, none⟩ (.int .i64 ((p : Int) + 1))) (some g)) := grown_set (grown_refl w _) 1 _
  have HY : Hid (Bys (w.setCell ⟨g, 1, none⟩ (.int .i64 ((p : Int) + 1))) 0 A c bs) := by
    refine ⟨?_, h2.cap, h2.len, h2.byte⟩
    rcases h2.row with h5 | ⟨a, e, h6, h7⟩
    · exact .inl h5
    · by_cases hb : bs = []
      · exact .inl (by rw [hb]; rfl)
      · exact .inr ⟨a, e, h6, CellsAt.moved h7 (Below.heap_setCell w _ _ _ (by have := h3 hb a e; show a.block ≠ g; omega))⟩
  clear h h1 h2 h3
  by_cases hl : bs.length = 0
  · have b0 : ((bs.length : Int) == 0) = true := by simp [hl]
    have HL := Lib.hid hl
    clear hl
    go_enter Try.func43, Try.ntmps43
    go_wp2
    go_ret
    exact ⟨0, rfl, by omega, by omega, HR.out, HG.out⟩
  · have b0 : ((bs.length : Int) == 0) = false := by simp [hl]
    by_cases hk : p < bs.length
    · obtain ⟨a, z, rfl, c2, z0, z1⟩ := HY.out.at_ p hk
      clear hl
      go_enter Try.func43, Try.ntmps43
      go_wp2
      go_ret
      exact ⟨_, rfl, Int.emod_nonneg _ (by omega), Int.emod_lt_of_pos _ (by omega), HR.out, HG.out⟩
    · have hl' : 0 < bs.length := by omega
      obtain ⟨k1, e1, h1⟩ := tmod_nat p bs.length hl'
      obtain ⟨k2, e2, h2⟩ := tmod_nat (p * 7 + 3) bs.length hl'
      rw [show ((p * 7 + 3 : Nat) : Int) = (p : Int) * 7 + 3 by omega] at e2
      obtain ⟨k3, e3, h3⟩ := tdiv_nat p bs.length
      obtain ⟨a, z, rfl, c2, z0, z1⟩ := HY.out.at_ k1 h1
      obtain ⟨a', y, e, c3, y0, y1⟩ := HY.out.at_ k2 h2
      cases e
      have hne : ¬ bs = [] := by rintro rfl; simp at hl'
      have w0 : IntKind.i64.wrap z = z := IntWalk.i64_in _ (by omega)
      have w0' : IntKind.i64.wrap y = y := IntWalk.i64_in _ (by omega)
      have w1 : IntKind.i64.wrap ((p : Int) * 7) = (p : Int) * 7 := IntWalk.i64_in _ (by omega)
      have w2 : IntKind.i64.wrap ((p : Int) * 7 + 3) = (p : Int) * 7 + 3 := IntWalk.i64_in _ (by omega)
      have w3 : IntKind.i64.wrap (z * 131) = z * 131 := IntWalk.i64_in _ (by omega)
      have w4 : IntKind.i64.wrap (y * 1117) = y * 1117 := IntWalk.i64_in _ (by omega)
      have w5 : IntKind.i64.wrap (z * 131 + y * 1117) = z * 131 + y * 1117 := IntWalk.i64_in _ (by omega)
      have w6 : IntKind.i64.wrap ((p : Int) * 29) = (p : Int) * 29 := IntWalk.i64_in _ (by omega)
      have w7 : IntKind.i64.wrap (z * 131 + y * 1117 + (p : Int) * 29) = z * 131 + y * 1117 + (p : Int) * 29 := IntWalk.i64_in _ (by omega)
      have w8 : IntKind.i64.wrap ((k3 : Int) * 53) = (k3 : Int) * 53 := IntWalk.i64_in _ (by omega)
      have w9 : IntKind.i64.wrap (z * 131 + y * 1117 + (p : Int) * 29 + (k3 : Int) * 53) = z * 131 + y * 1117 + (p : Int) * 29 + (k3 : Int) * 53 := IntWalk.i64_in _ (by omega)
      obtain ⟨X, hX⟩ : ∃ X, X = z * 131 + y * 1117 + (p : Int) * 29 + (k3 : Int) * 53 := ⟨_, rfl⟩
      rw [← hX] at w9
      have hX0 : 0 ≤ X := by omega
      have hX1 : X < 100000000 := by omega
      have HX := Lib.hid hX
      clear hX hl
      go_enter Try.func43, Try.ntmps43
      go_wp2
      go_quiet (fail)
      clear w0 w0' w1 w2 w3 w4 w5 w6 w7 w8 w9 e1 e2 e3 c2 c3
      rw [← HX.out]
      have q0 : 0 ≤ X / 64 := by omega
      have q1 : X / 64 < 9223372036854775808 := by omega
      obtain ⟨m, hm, hm1⟩ := i64_xor hX0 (by omega) q0 q1
      clear q0 q1
      go_wp2
      go_ret
      exact ⟨_, rfl, Int.emod_nonneg _ (by omega), Int.emod_lt_of_pos _ (by omega), HR.out.below (below_drewN (Below.refl _ _) _), grown_then HG.out (grown_below (below_drewN (Below.refl _ _) _))⟩

theorem num_c (g p b c : Nat) (zs : List Int) (lo hi : Int) (w : World) (h : Rd w g p) (hc : CellsAt w ⟨b, 0, none⟩ (zs.map fun z => .int .i64 z)) (hbg : b ≠ g) (hb : b < w.heap.size) (hz : ∀ z ∈ zs, lo ≤ z ∧ z ≤ hi) (hl : 0 < zs.length) (hl2 : zs.length ≤ 1000000) (hp : p ≤ 1000000) :
    Calls Try.prog 52 #[.pointer (some ⟨g, 0, none⟩), .slice (some ⟨b, 0, none⟩) zs.length c] w fun e w' => ∃ r : Int, e = .returned (.int .i64 r) ∧ lo ≤ r ∧ r ≤ hi ∧ Rd w' g (p + 1) ∧ w.grownBy w' (some g) := by
  go_enter Try.func52, Try.ntmps52
  go_wp2_with fail
  refine (pick_c g p _ _ h (by omega) (by omega) hp).mono ?_
  rintro e w1 ⟨r, rfl, r0, r1, HR, HG⟩
  obtain ⟨k, rfl⟩ := Int.eq_ofNat_of_zero_le r0
  have hk : k < zs.length := by omega
  have c1 : w1.cell? ⟨b, k, none⟩ = some (.int .i64 zs[k]) := by
    have e0 : (⟨b, 0, none⟩ : Addr).add k = ⟨b, k, none⟩ := by unfold Addr.add; split <;> simp_all
    rw [World.cell?_of_block (w := w) (HG.block b hb (by simpa using hbg)), ← e0]
    exact hc k _ (by simp [hk])
  have hzk := hz zs[k] (List.getElem_mem hk)
  have hR := Lib.hid HR
  have hG := Lib.hid HG
  obtain ⟨z, hz1⟩ : ∃ z, zs[k] = z := ⟨_, rfl⟩
  rw [hz1] at c1 hzk
  clear HR HG hz hz1
  go_wp2
  go_ret
  exact ⟨z, rfl, hzk.1, hzk.2, hR.out, hG.out⟩

theorem open_c (A : Option Addr) (c : Nat) (bs : List Int) (w : World) (h : Bys w 0 A c bs) :
    Calls Try.prog 37 #[.slice A bs.length c] w fun e w' => ∃ g, e = .returned (.pointer (some ⟨g, 0, none⟩)) ∧ Rd w' g 0 ∧ w.heap.size ≤ g ∧ Below w.heap.size w w' := by
  have hlt : bs ≠ [] → ∀ a, A = some a → a.block < w.heap.size := by
    intro hb a e
    subst e
    obtain ⟨a', z, e, h1, _⟩ := h.at_ 0 (List.length_pos_iff.2 hb)
    cases e
    have := World.block_lt_of_cell? w _ h1
    simpa [Addr.add] using this
  have hcap := h.cap
  have hlen := h.len
  unfold maxN at hlen
  by_cases hl : (2000 : Int) < bs.length
  · have e1 : (bs.take 2000).length = 2000 := by rw [List.length_take]; omega
    have HT : Hid (Bys w 0 A c (bs.take 2000)) := by
      refine ⟨?_, by omega, by rw [e1]; unfold maxN; omega, fun z hz => h.byte z (List.mem_of_mem_take hz)⟩
      rcases h.row with h5 | ⟨a, e, h6, h7⟩
      · exact .inl (by rw [List.map_eq_nil_iff] at h5; subst h5; simp)
      · refine .inr ⟨a, e, h6, fun j u hj => h7 j u ?_⟩
        rw [List.map_take, List.getElem?_take] at hj
        split at hj
        · exact hj
        · cases hj
    have HB := Lib.hid (blk_new w #[.slice A 2000 c, .int .i64 0] TRd)
    have HL := Lib.hid hlt
    have E1 := Lib.hid e1
    have hA : ∃ a, A = some a := by
      obtain ⟨a', _, e, _⟩ := h.at_ 0 (by omega)
      exact ⟨a', e⟩
    obtain ⟨a, rfl⟩ := hA
    have HN : Hid (bs ≠ []) := by rintro rfl; simp at hl
    clear hlt h e1
    go_enter Try.func37, Try.ntmps37
    go_wp2
    go_ret
    refine ⟨w.heap.size, rfl, ⟨some a, c, bs.take 2000, ?_, HT.out.below (below_alloc (Below.refl _ _) _), fun _ a' e => HL.out HN.out a' e, by rw [E1.out]; exact Nat.le_refl _⟩, Nat.le_refl _, below_alloc (Below.refl _ _) _⟩
    rw [E1.out]
    exact HB.out
  · have HB := Lib.hid (blk_new w #[.slice A bs.length c, .int .i64 0] TRd)
    have HL := Lib.hid hlt
    have HH := Lib.hid h
    clear hlt h
    go_enter Try.func37, Try.ntmps37
    go_wp2
    go_ret
    exact ⟨w.heap.size, rfl, ⟨A, c, bs, HB.out, HH.out.below (below_alloc (Below.refl _ _) _), fun hb a e => HL.out hb a e, by omega⟩, Nat.le_refl _, below_alloc (Below.refl _ _) _⟩

theorem min_c (a b : Int) (w : World) :
    Calls Try.prog 54 #[.int .i64 a, .int .i64 b] w fun e w' => e = .returned (.int .i64 (if a < b then a else b)) ∧ w = w' := by
  go_enter Try.func54, Try.ntmps54
  by_cases h : a < b
  · rw [if_pos h]
    go_wp2
    go_ret
    exact ⟨rfl, rfl⟩
  · rw [if_neg h]
    go_wp2
    go_ret
    exact ⟨rfl, rfl⟩

end Go.Proofs.Ytjnhmoinehffiaa
