/- null, l2Null: whether the empty text is like a tree. -/
import Derived.Test.YtlchipjckgaclaaDoorT9
namespace Go.Proofs.YtlchipjckgaclaaDoor
set_option linter.unusedSimpArgs false
set_option linter.unusedVariables false
set_option maxRecDepth 100000
open Go.RowKit

theorem kidsOf_cases {k : Int} {n : Nat} (h : kidsOf k = n) : (k = 1 ∨ k = 2) ∧ n = 0 ∨ (k = 5 ∨ k = 7) ∧ n = 1 ∨ (k = 3 ∨ k = 4 ∨ k = 6) ∧ n = 2 := by
  unfold kidsOf at h
  split at h
  · left; omega
  · split at h
    · right; left; omega
    · split at h
      · right; right; omega
      · omega
theorem formed_node {d : Nat} {k : Int} {s : List Sp} {ks : List Rex} (h : formed d (.mk k s ks) = true) : kidsOf k = ks.length ∧ (k = 1 ∨ s = []) ∧ setOk s = true ∧ 0 < d ∧ ∀ r, r ∈ ks → formed (d - 1) r = true := by
  cases d with
  | zero => simp [formed] at h
  | succ d =>
    rw [formed, Bool.and_eq_true, List.all_eq_true] at h
    obtain ⟨h1, h2⟩ := h
    simp only [nodeOk, Rex.kind, Rex.set, Rex.kids, Bool.and_eq_true, Bool.or_eq_true, decide_eq_true_eq, List.isEmpty_iff] at h1
    exact ⟨of_decide_eq_true h1.1.1, h1.1.2.imp of_decide_eq_true id, h1.2, by omega, h2⟩
theorem formed_shape {d : Nat} {k : Int} {s : List Sp} {ks : List Rex} (h : formed d (.mk k s ks) = true) :
    (k = 1 ∨ k = 2) ∧ ks = [] ∨ (k = 5 ∨ k = 7) ∧ (∃ a, ks = [a] ∧ formed (d - 1) a = true) ∨ (k = 3 ∨ k = 4 ∨ k = 6) ∧ ∃ a b, ks = [a, b] ∧ formed (d - 1) a = true ∧ formed (d - 1) b = true := by
  obtain ⟨h1, _, _, _, h5⟩ := formed_node h
  rcases kidsOf_cases h1 with ⟨e, hn⟩ | ⟨e, hn⟩ | ⟨e, hn⟩
  · exact .inl ⟨e, List.length_eq_zero_iff.1 hn⟩
  · obtain ⟨a, rfl⟩ := List.length_eq_one_iff.1 hn
    exact .inr (.inl ⟨e, a, rfl, h5 a (by simp)⟩)
  · match ks, hn with
    | [a, b], _ => exact .inr (.inr ⟨e, a, b, rfl, h5 a (by simp), h5 b (by simp)⟩)
/-- the kids of one and of two -/
theorem Kids.one {w : World} {lo : Nat} {K : Option Addr} {ck : Nat} {x : Rex} (h : Kids w lo K ck [x]) :
    ∃ a v1 v2, K = some a ∧ RexV w lo x (.int .i64 x.kind) v1 v2 ∧ w.cell? a = some (.int .i64 x.kind) ∧ w.cell? ⟨a.block, a.off + 1, none⟩ = some v1 ∧ w.cell? ⟨a.block, a.off + 2, none⟩ = some v2 := by
  obtain ⟨a, r, v1, v2, e, HX, _, HV, c0, c1, c2⟩ := h.at_ 0 (by simp)
  obtain rfl : x = r := by simpa using HX.out
  rw [show a.add (0 * 3) = a by simp [Addr.add]] at c0 c1 c2
  exact ⟨a, v1, v2, e, HV.out, c0, c1, c2⟩
theorem Kids.two {w : World} {lo : Nat} {K : Option Addr} {ck : Nat} {x y : Rex} (h : Kids w lo K ck [x, y]) :
    ∃ a v1 v2 u1 u2, K = some a ∧ RexV w lo x (.int .i64 x.kind) v1 v2 ∧ w.cell? a = some (.int .i64 x.kind) ∧ w.cell? ⟨a.block, a.off + 1, none⟩ = some v1 ∧ w.cell? ⟨a.block, a.off + 2, none⟩ = some v2 ∧
      RexV w lo y (.int .i64 y.kind) u1 u2 ∧ w.cell? ⟨a.block, a.off + 3, none⟩ = some (.int .i64 y.kind) ∧ w.cell? ⟨a.block, a.off + 3 + 1, none⟩ = some u1 ∧ w.cell? ⟨a.block, a.off + 3 + 2, none⟩ = some u2 := by
  obtain ⟨a, r, v1, v2, e, HX, _, HV, c0, c1, c2⟩ := h.at_ 0 (by simp)
  obtain ⟨a', r', u1, u2, e', HX', _, HV', c0', c1', c2'⟩ := h.at_ 1 (by simp)
  obtain rfl : x = r := by simpa using HX.out
  obtain rfl : y = r' := by simpa using HX'.out
  obtain rfl : a = a' := by rw [e] at e'; exact Option.some.inj e'
  rw [show a.add (0 * 3) = a by simp [Addr.add]] at c0 c1 c2
  rw [show a.add (1 * 3) = ⟨a.block, a.off + 3, none⟩ by simp [Addr.add]] at c0' c1' c2'
  exact ⟨a, v1, v2, u1, u2, e, HV.out, c0, c1, c2, HV'.out, c0', c1', c2'⟩

def iNullOk (r : Rex) : Prop := ∀ (d : Nat) (v1 v2 : Value) (w : World) (lo : Nat), formed d r = true → RexV w lo r (.int .i64 r.kind) v1 v2 →
  Calls Tryd.prog 54 #[.agg #[.int .i64 r.kind, v1, v2]] w fun e w' => e = .returned (.bool (null r)) ∧ Below w.heap.size w w'
set_option maxHeartbeats 2000000 in
theorem iNull_c (r : Rex) : iNullOk r := by
  refine Rex.ind (p := iNullOk) (fun k s ks ih => ?_) r
  intro d v1 v2 w lo hd h
  obtain ⟨A, c, K, ck, _, rfl, rfl, hs, hk⟩ := h.parts
  dsimp only [Rex.kind, Rex.set, Rex.kids] at hs hk ⊢
  clear h
  rcases formed_shape hd with ⟨e, rfl⟩ | ⟨e, a, rfl, ha⟩ | ⟨e, a, b, rfl, ha, hb⟩
  · clear hd
    simp only [List.length_nil]
    rcases e with rfl | rfl
    · go_enter Tryd.func54, Tryd.ntmps54
      go_wp2
      go_ret
      exact ⟨rfl, below_alloc (Below.refl _ _) _⟩
    · go_enter Tryd.func54, Tryd.ntmps54
      go_wp2
      go_ret
      exact ⟨rfl, below_alloc (Below.refl _ _) _⟩
  · clear hd
    simp only [List.length_cons, List.length_nil, Nat.zero_add]
    rcases e with rfl | rfl
    · go_enter Tryd.func54, Tryd.ntmps54
      go_wp2
      go_ret
      exact ⟨rfl, below_alloc (Below.refl _ _) _⟩
    · obtain ⟨wa, hwa⟩ : ∃ x, x = w.alloc (.cells #[.int .i64 7, .slice A s.length c, .slice K 1 ck] 36) := ⟨_, rfl⟩
      have hb : Below w.heap.size w wa := by rw [hwa]; exact below_alloc (Below.refl _ _) _
      have m0 : Blk wa w.heap.size #[.int .i64 7, .slice A s.length c, .slice K 1 ck] 36 := by rw [hwa]; exact blk_new w _ _
      have HS := Lib.hid (hs.below hb)
      have HK := Lib.hid (hk.below hb)
      have HB := Lib.hid hb
      have M0 := Lib.hid m0
      clear hb m0 hs hk
      replace hwa := hwa.symm
      have N0 : ∀ x : BW wa, x.w1.cell? ⟨w.heap.size, 0, none⟩ = some (.int .i64 7) := fun x => by rw [(M0.out.below x.up).cell]; rfl
      have N1 : ∀ x : BW wa, x.w1.cell? ⟨w.heap.size, 1, none⟩ = some (.slice A s.length c) := fun x => by rw [(M0.out.below x.up).cell]; rfl
      have N2 : ∀ x : BW wa, x.w1.cell? ⟨w.heap.size, 2, none⟩ = some (.slice K 1 ck) := fun x => by rw [(M0.out.below x.up).cell]; rfl
      have n0 := N0 ⟨wa, Below.refl _ _⟩
      have n1 := N1 ⟨wa, Below.refl _ _⟩
      have n2 := N2 ⟨wa, Below.refl _ _⟩
      dsimp only at n0 n1 n2
      clear N0 N1 N2
      obtain ⟨a', x1, x2, rfl, hv, c0, c1, c2⟩ := HK.out.one
      have HV := Lib.hid hv
      clear hv
      go_enter Tryd.func54, Tryd.ntmps54
      go_wp2_with fail
      clear hwa
      refine (ih a (by simp) _ _ _ _ _ ha HV.out).mono ?_
      rintro e w1 ⟨rfl, b1⟩
      clear n0 n1 n2 c0 c1 c2
      go_wp2
      go_ret
      exact ⟨ret_bool (by simp [null, nullAt]), below_then HB.out b1⟩
  · clear hd
    simp only [List.length_cons, List.length_nil, Nat.zero_add, Nat.reduceAdd]
    rcases e with rfl | rfl | rfl
    · obtain ⟨wa, hwa⟩ : ∃ x, x = w.alloc (.cells #[.int .i64 3, .slice A s.length c, .slice K 2 ck] 36) := ⟨_, rfl⟩
      have hb : Below w.heap.size w wa := by rw [hwa]; exact below_alloc (Below.refl _ _) _
      have m0 : Blk wa w.heap.size #[.int .i64 3, .slice A s.length c, .slice K 2 ck] 36 := by rw [hwa]; exact blk_new w _ _
      have HS := Lib.hid (hs.below hb)
      have HK := Lib.hid (hk.below hb)
      have HB := Lib.hid hb
      have M0 := Lib.hid m0
      clear hb m0 hs hk
      replace hwa := hwa.symm
      have N0 : ∀ x : BW wa, x.w1.cell? ⟨w.heap.size, 0, none⟩ = some (.int .i64 3) := fun x => by rw [(M0.out.below x.up).cell]; rfl
      have N1 : ∀ x : BW wa, x.w1.cell? ⟨w.heap.size, 1, none⟩ = some (.slice A s.length c) := fun x => by rw [(M0.out.below x.up).cell]; rfl
      have N2 : ∀ x : BW wa, x.w1.cell? ⟨w.heap.size, 2, none⟩ = some (.slice K 2 ck) := fun x => by rw [(M0.out.below x.up).cell]; rfl
      have n0 := N0 ⟨wa, Below.refl _ _⟩
      have n1 := N1 ⟨wa, Below.refl _ _⟩
      have n2 := N2 ⟨wa, Below.refl _ _⟩
      dsimp only at n0 n1 n2
      clear N0 N1 N2
      obtain ⟨a', x1, x2, y1, y2, rfl, hv, c0, c1, c2, hv', d0, d1, d2⟩ := HK.out.two
      have HV := Lib.hid hv
      have HV' := Lib.hid hv'
      clear hv hv'
      have C3 : ∀ w' : World, Below wa.heap.size wa w' → w'.cell? ⟨a'.block, a'.off + 3, none⟩ = some (.int .i64 b.kind) ∧ w'.cell? ⟨a'.block, a'.off + 3 + 1, none⟩ = some y1 ∧ w'.cell? ⟨a'.block, a'.off + 3 + 2, none⟩ = some y2 := fun w' hb =>
        ⟨(BW.cell ⟨w', hb⟩ d0 :), (BW.cell ⟨w', hb⟩ d1 :), (BW.cell ⟨w', hb⟩ d2 :)⟩
      have HC := Lib.hid C3
      clear C3
      go_enter Tryd.func54, Tryd.ntmps54
      go_wp2_with fail
      clear hwa
      refine (ih a (by simp) _ _ _ _ _ ha HV.out).mono ?_
      rintro e w1 ⟨rfl, b1⟩
      have H1 := Lib.hid b1
      obtain ⟨z0, z1, z2⟩ := HC.out w1 b1
      clear n0 n1 n2 c0 c1 c2 d0 d1 d2
      have n2 : w1.cell? ⟨w.heap.size, 2, none⟩ = some (.slice (some a') 2 ck) := by rw [(M0.out.below b1).cell]; rfl
      clear b1
      by_cases hn : null a = true
      · have HN := Lib.hid hn
        rw [hn]
        clear hn
        go_wp2_with fail
        refine (ih b (by simp) _ _ _ _ _ hb (HV'.out.under H1.out)).mono ?_
        rintro e w2 ⟨rfl, b2⟩
        clear n2 z0 z1 z2
        go_wp2
        go_ret
        exact ⟨ret_bool (by simp [null, nullAt, HN.out]), below_then HB.out (below_then H1.out b2)⟩
      · have HN : Hid (null a = !true) := by show _ = _; simpa using hn
        rw [HN.out]
        clear hn
        go_wp2
        go_ret
        exact ⟨ret_bool (by simp [null, nullAt, HN.out]), below_then HB.out H1.out⟩
    · obtain ⟨wa, hwa⟩ : ∃ x, x = w.alloc (.cells #[.int .i64 4, .slice A s.length c, .slice K 2 ck] 36) := ⟨_, rfl⟩
      have hb : Below w.heap.size w wa := by rw [hwa]; exact below_alloc (Below.refl _ _) _
      have m0 : Blk wa w.heap.size #[.int .i64 4, .slice A s.length c, .slice K 2 ck] 36 := by rw [hwa]; exact blk_new w _ _
      have HS := Lib.hid (hs.below hb)
      have HK := Lib.hid (hk.below hb)
      have HB := Lib.hid hb
      have M0 := Lib.hid m0
      clear hb m0 hs hk
      replace hwa := hwa.symm
      have N0 : ∀ x : BW wa, x.w1.cell? ⟨w.heap.size, 0, none⟩ = some (.int .i64 4) := fun x => by rw [(M0.out.below x.up).cell]; rfl
      have N1 : ∀ x : BW wa, x.w1.cell? ⟨w.heap.size, 1, none⟩ = some (.slice A s.length c) := fun x => by rw [(M0.out.below x.up).cell]; rfl
      have N2 : ∀ x : BW wa, x.w1.cell? ⟨w.heap.size, 2, none⟩ = some (.slice K 2 ck) := fun x => by rw [(M0.out.below x.up).cell]; rfl
      have n0 := N0 ⟨wa, Below.refl _ _⟩
      have n1 := N1 ⟨wa, Below.refl _ _⟩
      have n2 := N2 ⟨wa, Below.refl _ _⟩
      dsimp only at n0 n1 n2
      clear N0 N1 N2
      obtain ⟨a', x1, x2, y1, y2, rfl, hv, c0, c1, c2, hv', d0, d1, d2⟩ := HK.out.two
      have HV := Lib.hid hv
      have HV' := Lib.hid hv'
      clear hv hv'
      have C3 : ∀ w' : World, Below wa.heap.size wa w' → w'.cell? ⟨a'.block, a'.off + 3, none⟩ = some (.int .i64 b.kind) ∧ w'.cell? ⟨a'.block, a'.off + 3 + 1, none⟩ = some y1 ∧ w'.cell? ⟨a'.block, a'.off + 3 + 2, none⟩ = some y2 := fun w' hb =>
        ⟨(BW.cell ⟨w', hb⟩ d0 :), (BW.cell ⟨w', hb⟩ d1 :), (BW.cell ⟨w', hb⟩ d2 :)⟩
      have HC := Lib.hid C3
      clear C3
      go_enter Tryd.func54, Tryd.ntmps54
      go_wp2_with fail
      clear hwa
      refine (ih a (by simp) _ _ _ _ _ ha HV.out).mono ?_
      rintro e w1 ⟨rfl, b1⟩
      have H1 := Lib.hid b1
      obtain ⟨z0, z1, z2⟩ := HC.out w1 b1
      clear n0 n1 n2 c0 c1 c2 d0 d1 d2
      have n2 : w1.cell? ⟨w.heap.size, 2, none⟩ = some (.slice (some a') 2 ck) := by rw [(M0.out.below b1).cell]; rfl
      clear b1
      by_cases hn : null a = false
      · have HN := Lib.hid hn
        rw [hn]
        clear hn
        go_wp2_with fail
        refine (ih b (by simp) _ _ _ _ _ hb (HV'.out.under H1.out)).mono ?_
        rintro e w2 ⟨rfl, b2⟩
        clear n2 z0 z1 z2
        go_wp2
        go_ret
        exact ⟨ret_bool (by simp [null, nullAt, HN.out]), below_then HB.out (below_then H1.out b2)⟩
      · have HN : Hid (null a = !false) := by show _ = _; simpa using hn
        rw [HN.out]
        clear hn
        go_wp2
        go_ret
        exact ⟨ret_bool (by simp [null, nullAt, HN.out]), below_then HB.out H1.out⟩
    · obtain ⟨wa, hwa⟩ : ∃ x, x = w.alloc (.cells #[.int .i64 6, .slice A s.length c, .slice K 2 ck] 36) := ⟨_, rfl⟩
      have hb : Below w.heap.size w wa := by rw [hwa]; exact below_alloc (Below.refl _ _) _
      have m0 : Blk wa w.heap.size #[.int .i64 6, .slice A s.length c, .slice K 2 ck] 36 := by rw [hwa]; exact blk_new w _ _
      have HS := Lib.hid (hs.below hb)
      have HK := Lib.hid (hk.below hb)
      have HB := Lib.hid hb
      have M0 := Lib.hid m0
      clear hb m0 hs hk
      replace hwa := hwa.symm
      have N0 : ∀ x : BW wa, x.w1.cell? ⟨w.heap.size, 0, none⟩ = some (.int .i64 6) := fun x => by rw [(M0.out.below x.up).cell]; rfl
      have N1 : ∀ x : BW wa, x.w1.cell? ⟨w.heap.size, 1, none⟩ = some (.slice A s.length c) := fun x => by rw [(M0.out.below x.up).cell]; rfl
      have N2 : ∀ x : BW wa, x.w1.cell? ⟨w.heap.size, 2, none⟩ = some (.slice K 2 ck) := fun x => by rw [(M0.out.below x.up).cell]; rfl
      have n0 := N0 ⟨wa, Below.refl _ _⟩
      have n1 := N1 ⟨wa, Below.refl _ _⟩
      have n2 := N2 ⟨wa, Below.refl _ _⟩
      dsimp only at n0 n1 n2
      clear N0 N1 N2
      obtain ⟨a', x1, x2, y1, y2, rfl, hv, c0, c1, c2, hv', d0, d1, d2⟩ := HK.out.two
      have HV := Lib.hid hv
      have HV' := Lib.hid hv'
      clear hv hv'
      have C3 : ∀ w' : World, Below wa.heap.size wa w' → w'.cell? ⟨a'.block, a'.off + 3, none⟩ = some (.int .i64 b.kind) ∧ w'.cell? ⟨a'.block, a'.off + 3 + 1, none⟩ = some y1 ∧ w'.cell? ⟨a'.block, a'.off + 3 + 2, none⟩ = some y2 := fun w' hb =>
        ⟨(BW.cell ⟨w', hb⟩ d0 :), (BW.cell ⟨w', hb⟩ d1 :), (BW.cell ⟨w', hb⟩ d2 :)⟩
      have HC := Lib.hid C3
      clear C3
      go_enter Tryd.func54, Tryd.ntmps54
      go_wp2_with fail
      clear hwa
      refine (ih a (by simp) _ _ _ _ _ ha HV.out).mono ?_
      rintro e w1 ⟨rfl, b1⟩
      have H1 := Lib.hid b1
      obtain ⟨z0, z1, z2⟩ := HC.out w1 b1
      clear n0 n1 n2 c0 c1 c2 d0 d1 d2
      have n2 : w1.cell? ⟨w.heap.size, 2, none⟩ = some (.slice (some a') 2 ck) := by rw [(M0.out.below b1).cell]; rfl
      clear b1
      by_cases hn : null a = true
      · have HN := Lib.hid hn
        rw [hn]
        clear hn
        go_wp2_with fail
        refine (ih b (by simp) _ _ _ _ _ hb (HV'.out.under H1.out)).mono ?_
        rintro e w2 ⟨rfl, b2⟩
        clear n2 z0 z1 z2
        go_wp2
        go_ret
        exact ⟨ret_bool (by simp [null, nullAt, HN.out]), below_then HB.out (below_then H1.out b2)⟩
      · have HN : Hid (null a = !true) := by show _ = _; simpa using hn
        rw [HN.out]
        clear hn
        go_wp2
        go_ret
        exact ⟨ret_bool (by simp [null, nullAt, HN.out]), below_then HB.out H1.out⟩
def sNullOk (r : Rex) : Prop := ∀ (d : Nat) (v1 v2 : Value) (w : World) (lo : Nat), formed d r = true → RexV w lo r (.int .i64 r.kind) v1 v2 →
  Calls Tryd.prog 55 #[.agg #[.int .i64 r.kind, v1, v2]] w fun e w' => e = .returned (.bool (null r)) ∧ Below w.heap.size w w'
set_option maxHeartbeats 2000000 in
theorem sNull_c (r : Rex) : sNullOk r := by
  refine Rex.ind (p := sNullOk) (fun k s ks ih => ?_) r
  intro d v1 v2 w lo hd h
  obtain ⟨A, c, K, ck, _, rfl, rfl, hs, hk⟩ := h.parts
  dsimp only [Rex.kind, Rex.set, Rex.kids] at hs hk ⊢
  clear h
  rcases formed_shape hd with ⟨e, rfl⟩ | ⟨e, a, rfl, ha⟩ | ⟨e, a, b, rfl, ha, hb⟩
  · clear hd
    simp only [List.length_nil]
    rcases e with rfl | rfl
    · go_enter Tryd.func55, Tryd.ntmps55
      go_wp2
      go_ret
      exact ⟨rfl, below_alloc (Below.refl _ _) _⟩
    · go_enter Tryd.func55, Tryd.ntmps55
      go_wp2
      go_ret
      exact ⟨rfl, below_alloc (Below.refl _ _) _⟩
  · clear hd
    simp only [List.length_cons, List.length_nil, Nat.zero_add]
    rcases e with rfl | rfl
    · go_enter Tryd.func55, Tryd.ntmps55
      go_wp2
      go_ret
      exact ⟨rfl, below_alloc (Below.refl _ _) _⟩
    · obtain ⟨wa, hwa⟩ : ∃ x, x = w.alloc (.cells #[.int .i64 7, .slice A s.length c, .slice K 1 ck] 36) := ⟨_, rfl⟩
      have hb : Below w.heap.size w wa := by rw [hwa]; exact below_alloc (Below.refl _ _) _
      have m0 : Blk wa w.heap.size #[.int .i64 7, .slice A s.length c, .slice K 1 ck] 36 := by rw [hwa]; exact blk_new w _ _
      have HS := Lib.hid (hs.below hb)
      have HK := Lib.hid (hk.below hb)
      have HB := Lib.hid hb
      have M0 := Lib.hid m0
      clear hb m0 hs hk
      replace hwa := hwa.symm
      have N0 : ∀ x : BW wa, x.w1.cell? ⟨w.heap.size, 0, none⟩ = some (.int .i64 7) := fun x => by rw [(M0.out.below x.up).cell]; rfl
      have N1 : ∀ x : BW wa, x.w1.cell? ⟨w.heap.size, 1, none⟩ = some (.slice A s.length c) := fun x => by rw [(M0.out.below x.up).cell]; rfl
      have N2 : ∀ x : BW wa, x.w1.cell? ⟨w.heap.size, 2, none⟩ = some (.slice K 1 ck) := fun x => by rw [(M0.out.below x.up).cell]; rfl
      have n0 := N0 ⟨wa, Below.refl _ _⟩
      have n1 := N1 ⟨wa, Below.refl _ _⟩
      have n2 := N2 ⟨wa, Below.refl _ _⟩
      dsimp only at n0 n1 n2
      clear N0 N1 N2
      obtain ⟨a', x1, x2, rfl, hv, c0, c1, c2⟩ := HK.out.one
      have HV := Lib.hid hv
      clear hv
      go_enter Tryd.func55, Tryd.ntmps55
      go_wp2_with fail
      clear hwa
      refine (ih a (by simp) _ _ _ _ _ ha HV.out).mono ?_
      rintro e w1 ⟨rfl, b1⟩
      clear n0 n1 n2 c0 c1 c2
      go_wp2
      go_ret
      exact ⟨ret_bool (by simp [null, nullAt]), below_then HB.out b1⟩
  · clear hd
    simp only [List.length_cons, List.length_nil, Nat.zero_add, Nat.reduceAdd]
    rcases e with rfl | rfl | rfl
    · obtain ⟨wa, hwa⟩ : ∃ x, x = w.alloc (.cells #[.int .i64 3, .slice A s.length c, .slice K 2 ck] 36) := ⟨_, rfl⟩
      have hb : Below w.heap.size w wa := by rw [hwa]; exact below_alloc (Below.refl _ _) _
      have m0 : Blk wa w.heap.size #[.int .i64 3, .slice A s.length c, .slice K 2 ck] 36 := by rw [hwa]; exact blk_new w _ _
      have HS := Lib.hid (hs.below hb)
      have HK := Lib.hid (hk.below hb)
      have HB := Lib.hid hb
      have M0 := Lib.hid m0
      clear hb m0 hs hk
      replace hwa := hwa.symm
      have N0 : ∀ x : BW wa, x.w1.cell? ⟨w.heap.size, 0, none⟩ = some (.int .i64 3) := fun x => by rw [(M0.out.below x.up).cell]; rfl
      have N1 : ∀ x : BW wa, x.w1.cell? ⟨w.heap.size, 1, none⟩ = some (.slice A s.length c) := fun x => by rw [(M0.out.below x.up).cell]; rfl
      have N2 : ∀ x : BW wa, x.w1.cell? ⟨w.heap.size, 2, none⟩ = some (.slice K 2 ck) := fun x => by rw [(M0.out.below x.up).cell]; rfl
      have n0 := N0 ⟨wa, Below.refl _ _⟩
      have n1 := N1 ⟨wa, Below.refl _ _⟩
      have n2 := N2 ⟨wa, Below.refl _ _⟩
      dsimp only at n0 n1 n2
      clear N0 N1 N2
      obtain ⟨a', x1, x2, y1, y2, rfl, hv, c0, c1, c2, hv', d0, d1, d2⟩ := HK.out.two
      have HV := Lib.hid hv
      have HV' := Lib.hid hv'
      clear hv hv'
      have C3 : ∀ w' : World, Below wa.heap.size wa w' → w'.cell? ⟨a'.block, a'.off + 3, none⟩ = some (.int .i64 b.kind) ∧ w'.cell? ⟨a'.block, a'.off + 3 + 1, none⟩ = some y1 ∧ w'.cell? ⟨a'.block, a'.off + 3 + 2, none⟩ = some y2 := fun w' hb =>
        ⟨(BW.cell ⟨w', hb⟩ d0 :), (BW.cell ⟨w', hb⟩ d1 :), (BW.cell ⟨w', hb⟩ d2 :)⟩
      have HC := Lib.hid C3
      clear C3
      go_enter Tryd.func55, Tryd.ntmps55
      go_wp2_with fail
      clear hwa
      refine (ih a (by simp) _ _ _ _ _ ha HV.out).mono ?_
      rintro e w1 ⟨rfl, b1⟩
      have H1 := Lib.hid b1
      obtain ⟨z0, z1, z2⟩ := HC.out w1 b1
      clear n0 n1 n2 c0 c1 c2 d0 d1 d2
      have n2 : w1.cell? ⟨w.heap.size, 2, none⟩ = some (.slice (some a') 2 ck) := by rw [(M0.out.below b1).cell]; rfl
      clear b1
      by_cases hn : null a = true
      · have HN := Lib.hid hn
        rw [hn]
        clear hn
        go_wp2_with fail
        refine (ih b (by simp) _ _ _ _ _ hb (HV'.out.under H1.out)).mono ?_
        rintro e w2 ⟨rfl, b2⟩
        clear n2 z0 z1 z2
        go_wp2
        go_ret
        exact ⟨ret_bool (by simp [null, nullAt, HN.out]), below_then HB.out (below_then H1.out b2)⟩
      · have HN : Hid (null a = !true) := by show _ = _; simpa using hn
        rw [HN.out]
        clear hn
        go_wp2
        go_ret
        exact ⟨ret_bool (by simp [null, nullAt, HN.out]), below_then HB.out H1.out⟩
    · obtain ⟨wa, hwa⟩ : ∃ x, x = w.alloc (.cells #[.int .i64 4, .slice A s.length c, .slice K 2 ck] 36) := ⟨_, rfl⟩
      have hb : Below w.heap.size w wa := by rw [hwa]; exact below_alloc (Below.refl _ _) _
      have m0 : Blk wa w.heap.size #[.int .i64 4, .slice A s.length c, .slice K 2 ck] 36 := by rw [hwa]; exact blk_new w _ _
      have HS := Lib.hid (hs.below hb)
      have HK := Lib.hid (hk.below hb)
      have HB := Lib.hid hb
      have M0 := Lib.hid m0
      clear hb m0 hs hk
      replace hwa := hwa.symm
      have N0 : ∀ x : BW wa, x.w1.cell? ⟨w.heap.size, 0, none⟩ = some (.int .i64 4) := fun x => by rw [(M0.out.below x.up).cell]; rfl
      have N1 : ∀ x : BW wa, x.w1.cell? ⟨w.heap.size, 1, none⟩ = some (.slice A s.length c) := fun x => by rw [(M0.out.below x.up).cell]; rfl
      have N2 : ∀ x : BW wa, x.w1.cell? ⟨w.heap.size, 2, none⟩ = some (.slice K 2 ck) := fun x => by rw [(M0.out.below x.up).cell]; rfl
      have n0 := N0 ⟨wa, Below.refl _ _⟩
      have n1 := N1 ⟨wa, Below.refl _ _⟩
      have n2 := N2 ⟨wa, Below.refl _ _⟩
      dsimp only at n0 n1 n2
      clear N0 N1 N2
      obtain ⟨a', x1, x2, y1, y2, rfl, hv, c0, c1, c2, hv', d0, d1, d2⟩ := HK.out.two
      have HV := Lib.hid hv
      have HV' := Lib.hid hv'
      clear hv hv'
      have C3 : ∀ w' : World, Below wa.heap.size wa w' → w'.cell? ⟨a'.block, a'.off + 3, none⟩ = some (.int .i64 b.kind) ∧ w'.cell? ⟨a'.block, a'.off + 3 + 1, none⟩ = some y1 ∧ w'.cell? ⟨a'.block, a'.off + 3 + 2, none⟩ = some y2 := fun w' hb =>
        ⟨(BW.cell ⟨w', hb⟩ d0 :), (BW.cell ⟨w', hb⟩ d1 :), (BW.cell ⟨w', hb⟩ d2 :)⟩
      have HC := Lib.hid C3
      clear C3
      go_enter Tryd.func55, Tryd.ntmps55
      go_wp2_with fail
      clear hwa
      refine (ih a (by simp) _ _ _ _ _ ha HV.out).mono ?_
      rintro e w1 ⟨rfl, b1⟩
      have H1 := Lib.hid b1
      obtain ⟨z0, z1, z2⟩ := HC.out w1 b1
      clear n0 n1 n2 c0 c1 c2 d0 d1 d2
      have n2 : w1.cell? ⟨w.heap.size, 2, none⟩ = some (.slice (some a') 2 ck) := by rw [(M0.out.below b1).cell]; rfl
      clear b1
      by_cases hn : null a = false
      · have HN := Lib.hid hn
        rw [hn]
        clear hn
        go_wp2_with fail
        refine (ih b (by simp) _ _ _ _ _ hb (HV'.out.under H1.out)).mono ?_
        rintro e w2 ⟨rfl, b2⟩
        clear n2 z0 z1 z2
        go_wp2
        go_ret
        exact ⟨ret_bool (by simp [null, nullAt, HN.out]), below_then HB.out (below_then H1.out b2)⟩
      · have HN : Hid (null a = !false) := by show _ = _; simpa using hn
        rw [HN.out]
        clear hn
        go_wp2
        go_ret
        exact ⟨ret_bool (by simp [null, nullAt, HN.out]), below_then HB.out H1.out⟩
    · obtain ⟨wa, hwa⟩ : ∃ x, x = w.alloc (.cells #[.int .i64 6, .slice A s.length c, .slice K 2 ck] 36) := ⟨_, rfl⟩
      have hb : Below w.heap.size w wa := by rw [hwa]; exact below_alloc (Below.refl _ _) _
      have m0 : Blk wa w.heap.size #[.int .i64 6, .slice A s.length c, .slice K 2 ck] 36 := by rw [hwa]; exact blk_new w _ _
      have HS := Lib.hid (hs.below hb)
      have HK := Lib.hid (hk.below hb)
      have HB := Lib.hid hb
      have M0 := Lib.hid m0
      clear hb m0 hs hk
      replace hwa := hwa.symm
      have N0 : ∀ x : BW wa, x.w1.cell? ⟨w.heap.size, 0, none⟩ = some (.int .i64 6) := fun x => by rw [(M0.out.below x.up).cell]; rfl
      have N1 : ∀ x : BW wa, x.w1.cell? ⟨w.heap.size, 1, none⟩ = some (.slice A s.length c) := fun x => by rw [(M0.out.below x.up).cell]; rfl
      have N2 : ∀ x : BW wa, x.w1.cell? ⟨w.heap.size, 2, none⟩ = some (.slice K 2 ck) := fun x => by rw [(M0.out.below x.up).cell]; rfl
      have n0 := N0 ⟨wa, Below.refl _ _⟩
      have n1 := N1 ⟨wa, Below.refl _ _⟩
      have n2 := N2 ⟨wa, Below.refl _ _⟩
      dsimp only at n0 n1 n2
      clear N0 N1 N2
      obtain ⟨a', x1, x2, y1, y2, rfl, hv, c0, c1, c2, hv', d0, d1, d2⟩ := HK.out.two
      have HV := Lib.hid hv
      have HV' := Lib.hid hv'
      clear hv hv'
      have C3 : ∀ w' : World, Below wa.heap.size wa w' → w'.cell? ⟨a'.block, a'.off + 3, none⟩ = some (.int .i64 b.kind) ∧ w'.cell? ⟨a'.block, a'.off + 3 + 1, none⟩ = some y1 ∧ w'.cell? ⟨a'.block, a'.off + 3 + 2, none⟩ = some y2 := fun w' hb =>
        ⟨(BW.cell ⟨w', hb⟩ d0 :), (BW.cell ⟨w', hb⟩ d1 :), (BW.cell ⟨w', hb⟩ d2 :)⟩
      have HC := Lib.hid C3
      clear C3
      go_enter Tryd.func55, Tryd.ntmps55
      go_wp2_with fail
      clear hwa
      refine (ih a (by simp) _ _ _ _ _ ha HV.out).mono ?_
      rintro e w1 ⟨rfl, b1⟩
      have H1 := Lib.hid b1
      obtain ⟨z0, z1, z2⟩ := HC.out w1 b1
      clear n0 n1 n2 c0 c1 c2 d0 d1 d2
      have n2 : w1.cell? ⟨w.heap.size, 2, none⟩ = some (.slice (some a') 2 ck) := by rw [(M0.out.below b1).cell]; rfl
      clear b1
      by_cases hn : null a = true
      · have HN := Lib.hid hn
        rw [hn]
        clear hn
        go_wp2_with fail
        refine (ih b (by simp) _ _ _ _ _ hb (HV'.out.under H1.out)).mono ?_
        rintro e w2 ⟨rfl, b2⟩
        clear n2 z0 z1 z2
        go_wp2
        go_ret
        exact ⟨ret_bool (by simp [null, nullAt, HN.out]), below_then HB.out (below_then H1.out b2)⟩
      · have HN : Hid (null a = !true) := by show _ = _; simpa using hn
        rw [HN.out]
        clear hn
        go_wp2
        go_ret
        exact ⟨ret_bool (by simp [null, nullAt, HN.out]), below_then HB.out H1.out⟩

end Go.Proofs.YtlchipjckgaclaaDoor
