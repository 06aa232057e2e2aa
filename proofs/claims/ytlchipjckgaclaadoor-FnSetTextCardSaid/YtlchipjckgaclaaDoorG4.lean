/- Texts joined for the claims: T10 Tv Ti Sn. -/
import Derived.Test.YtlchipjckgaclaaDoorG3
import Derived.Test.YtlchipjckgaclaaDoorG2
import Derived.Test.YtlchipjckgaclaaDoorG1
/- null, l2Null: whether the empty text is like a tree. -/
namespace Go.Proofs.YtlchipjckgaclaaDoor
set_option linter.unusedSimpArgs false
set_option linter.unusedVariables false
set_option maxRecDepth 100000
open Go.RowKit

theorem kidsOf_cases {k : Int} {n : Nat} (h : kidsOf k = n) : (k = 1 ∨ k = 2) ∧ n = 0 ∨ (k = 5 ∨ k = 7) ∧ n = 1 ∨ (k = 3 ∨ k = 4 ∨ k = 6) ∧ n = 2 := by
  unfold kidsOf at h
  split at h
  · left; omega
  · split at h
    · right; left; omega
    · split at h
      · right; right; omega
      · omega
theorem formed_node {d : Nat} {k : Int} {s : List Sp} {ks : List Rex} (h : formed d (.mk k s ks) = true) : kidsOf k = ks.length ∧ (k = 1 ∨ s = []) ∧ setOk s = true ∧ 0 < d ∧ ∀ r, r ∈ ks → formed (d - 1) r = true := by
  cases d with
  | zero => simp [formed] at h
  | succ d =>
    rw [formed, Bool.and_eq_true, List.all_eq_true] at h
    obtain ⟨h1, h2⟩ := h
    simp only [nodeOk, Rex.kind, Rex.set, Rex.kids, Bool.and_eq_true, Bool.or_eq_true, decide_eq_true_eq, List.isEmpty_iff] at h1
    exact ⟨of_decide_eq_true h1.1.1, h1.1.2.imp of_decide_eq_true id, h1.2, by omega, h2⟩
theorem formed_shape {d : Nat} {k : Int} {s : List Sp} {ks : List Rex} (h : formed d (.mk k s ks) = true) :
    (k = 1 ∨ k = 2) ∧ ks = [] ∨ (k = 5 ∨ k = 7) ∧ (∃ a, ks = [a] ∧ formed (d - 1) a = true) ∨ (k = 3 ∨ k = 4 ∨ k = 6) ∧ ∃ a b, ks = [a, b] ∧ formed (d - 1) a = true ∧ formed (d - 1) b = true := by
  obtain ⟨h1, _, _, _, h5⟩ := formed_node h
  rcases kidsOf_cases h1 with ⟨e, hn⟩ | ⟨e, hn⟩ | ⟨e, hn⟩
  · exact .inl ⟨e, List.length_eq_zero_iff.1 hn⟩
  · obtain ⟨a, rfl⟩ := List.length_eq_one_iff.1 hn
    exact .inr (.inl ⟨e, a, rfl, h5 a (by simp)⟩)
  · match ks, hn with
    | [a, b], _ => exact .inr (.inr ⟨e, a, b, rfl, h5 a (by simp), h5 b (by simp)⟩)
/-- the kids of one and of two -/
theorem Kids.one {w : World} {lo : Nat} {K : Option Addr} {ck : Nat} {x : Rex} (h : Kids w lo K ck [x]) :
    ∃ a v1 v2, K = some a ∧ RexV w lo x (.int .i64 x.kind) v1 v2 ∧ w.cell? a = some (.int .i64 x.kind) ∧ w.cell? ⟨a.block, a.off + 1, none⟩ = some v1 ∧ w.cell? ⟨a.block, a.off + 2, none⟩ = some v2 := by
  obtain ⟨a, r, v1, v2, e, HX, _, HV, c0, c1, c2⟩ := h.at_ 0 (by simp)
  obtain rfl : x = r := by simpa using HX.out
  rw [show a.add (0 * 3) = a by simp [Addr.add]] at c0 c1 c2
  exact ⟨a, v1, v2, e, HV.out, c0, c1, c2⟩
theorem Kids.two {w : World} {lo : Nat} {K : Option Addr} {ck : Nat} {x y : Rex} (h : Kids w lo K ck [x, y]) :
    ∃ a v1 v2 u1 u2, K = some a ∧ RexV w lo x (.int .i64 x.kind) v1 v2 ∧ w.cell? a = some (.int .i64 x.kind) ∧ w.cell? ⟨a.block, a.off + 1, none⟩ = some v1 ∧ w.cell? ⟨a.block, a.off + 2, none⟩ = some v2 ∧
      RexV w lo y (.int .i64 y.kind) u1 u2 ∧ w.cell? ⟨a.block, a.off + 3, none⟩ = some (.int .i64 y.kind) ∧ w.cell? ⟨a.block, a.off + 3 + 1, none⟩ = some u1 ∧ w.cell? ⟨a.block, a.off + 3 + 2, none⟩ = some u2 := by
  obtain ⟨a, r, v1, v2, e, HX, _, HV, c0, c1, c2⟩ := h.at_ 0 (by simp)
  obtain ⟨a', r', u1, u2, e', HX', _, HV', c0', c1', c2'⟩ := h.at_ 1 (by simp)
  obtain rfl : x = r := by simpa using HX.out
  obtain rfl : y = r' := by simpa using HX'.out
  obtain rfl : a = a' := by rw [e] at e'; exact Option.some.inj e'
  rw [show a.add (0 * 3) = a by simp [Addr.add]] at c0 c1 c2
  rw [show a.add (1 * 3) = ⟨a.block, a.off + 3, none⟩ by simp [Addr.add]] at c0' c1' c2'
  exact ⟨a, v1, v2, u1, u2, e, HV.out, c0, c1, c2, HV'.out, c0', c1', c2'⟩

def iNullOk (r : Rex) : Prop := ∀ (d : Nat) (v1 v2 : Value) (w : World) (lo : Nat), formed d r = true → RexV w lo r (.int .i64 r.kind) v1 v2 →
  Calls Tryd.prog 54 #[.agg #[.int .i64 r.kind, v1, v2]] w fun e w' => e = .returned (.bool (null r)) ∧ Below w.heap.size w w'
set_option maxHeartbeats 2000000 in
theorem iNull_c (r : Rex) : iNullOk r := by
  refine Rex.ind (p := iNullOk) (fun k s ks ih => ?_) r
  intro d v1 v2 w lo hd h
  obtain ⟨A, c, K, ck, _, rfl, rfl, hs, hk⟩ := h.parts
  dsimp only [Rex.kind, Rex.set, Rex.kids] at hs hk ⊢
  clear h
  rcases formed_shape hd with ⟨e, rfl⟩ | ⟨e, a, rfl, ha⟩ | ⟨e, a, b, rfl, ha, hb⟩
  · clear hd
    simp only [List.length_nil]
    rcases e with rfl | rfl
    · go_enter Tryd.func54, Tryd.ntmps54
      go_wp2
      go_ret
      exact ⟨rfl, below_alloc (Below.refl _ _) _⟩
    · go_enter Tryd.func54, Tryd.ntmps54
      go_wp2
      go_ret
      exact ⟨rfl, below_alloc (Below.refl _ _) _⟩
  · clear hd
    simp only [List.length_cons, List.length_nil, Nat.zero_add]
    rcases e with rfl | rfl
    · go_enter Tryd.func54, Tryd.ntmps54
      go_wp2
      go_ret
      exact ⟨rfl, below_alloc (Below.refl _ _) _⟩
    · obtain ⟨wa, hwa⟩ : ∃ x, x = w.alloc (.cells #[.int .i64 7, .slice A s.length c, .slice K 1 ck] 36) := ⟨_, rfl⟩
      have hb : Below w.heap.size w wa := by rw [hwa]; exact below_alloc (Below.refl _ _) _
      have m0 : Blk wa w.heap.size #[.int .i64 7, .slice A s.length c, .slice K 1 ck] 36 := by rw [hwa]; exact blk_new w _ _
      have HS := Lib.hid (hs.below hb)
      have HK := Lib.hid (hk.below hb)
      have HB := Lib.hid hb
      have M0 := Lib.hid m0
      clear hb m0 hs hk
      replace hwa := hwa.symm
      have N0 : ∀ x : BW wa, x.w1.cell? ⟨w.heap.size, 0, none⟩ = some (.int .i64 7) := fun x => by rw [(M0.out.below x.up).cell]; rfl
      have N1 : ∀ x : BW wa, x.w1.cell? ⟨w.heap.size, 1, none⟩ = some (.slice A s.length c) := fun x => by rw [(M0.out.below x.up).cell]; rfl
      have N2 : ∀ x : BW wa, x.w1.cell? ⟨w.heap.size, 2, none⟩ = some (.slice K 1 ck) := fun x => by rw [(M0.out.below x.up).cell]; rfl
      have n0 := N0 ⟨wa, Below.refl _ _⟩
      have n1 := N1 ⟨wa, Below.refl _ _⟩
      have n2 := N2 ⟨wa, Below.refl _ _⟩
      dsimp only at n0 n1 n2
      clear N0 N1 N2
      obtain ⟨a', x1, x2, rfl, hv, c0, c1, c2⟩ := HK.out.one
      have HV := Lib.hid hv
      clear hv
      go_enter Tryd.func54, Tryd.ntmps54
      go_wp2_with fail
      clear hwa
      refine (ih a (by simp) _ _ _ _ _ ha HV.out).mono ?_
      rintro e w1 ⟨rfl, b1⟩
      clear n0 n1 n2 c0 c1 c2
      go_wp2
      go_ret
      exact ⟨ret_bool (by simp [null, nullAt]), below_then HB.out b1⟩
  · clear hd
    simp only [List.length_cons, List.length_nil, Nat.zero_add, Nat.reduceAdd]
    rcases e with rfl | rfl | rfl
    · obtain ⟨wa, hwa⟩ : ∃ x, x = w.alloc (.cells #[.int .i64 3, .slice A s.length c, .slice K 2 ck] 36) := ⟨_, rfl⟩
      have hb : Below w.heap.size w wa := by rw [hwa]; exact below_alloc (Below.refl _ _) _
      have m0 : Blk wa w.heap.size #[.int .i64 3, .slice A s.length c, .slice K 2 ck] 36 := by rw [hwa]; exact blk_new w _ _
      have HS := Lib.hid (hs.below hb)
      have HK := Lib.hid (hk.below hb)
      have HB := Lib.hid hb
      have M0 := Lib.hid m0
      clear hb m0 hs hk
      replace hwa := hwa.symm
      have N0 : ∀ x : BW wa, x.w1.cell? ⟨w.heap.size, 0, none⟩ = some (.int .i64 3) := fun x => by rw [(M0.out.below x.up).cell]; rfl
      have N1 : ∀ x : BW wa, x.w1.cell? ⟨w.heap.size, 1, none⟩ = some (.slice A s.length c) := fun x => by rw [(M0.out.below x.up).cell]; rfl
      have N2 : ∀ x : BW wa, x.w1.cell? ⟨w.heap.size, 2, none⟩ = some (.slice K 2 ck) := fun x => by rw [(M0.out.below x.up).cell]; rfl
      have n0 := N0 ⟨wa, Below.refl _ _⟩
      have n1 := N1 ⟨wa, Below.refl _ _⟩
      have n2 := N2 ⟨wa, Below.refl _ _⟩
      dsimp only at n0 n1 n2
      clear N0 N1 N2
      obtain ⟨a', x1, x2, y1, y2, rfl, hv, c0, c1, c2, hv', d0, d1, d2⟩ := HK.out.two
      have HV := Lib.hid hv
      have HV' := Lib.hid hv'
      clear hv hv'
      have C3 : ∀ w' : World, Below wa.heap.size wa w' → w'.cell? ⟨a'.block, a'.off + 3, none⟩ = some (.int .i64 b.kind) ∧ w'.cell? ⟨a'.block, a'.off + 3 + 1, none⟩ = some y1 ∧ w'.cell? ⟨a'.block, a'.off + 3 + 2, none⟩ = some y2 := fun w' hb =>
        ⟨(BW.cell ⟨w', hb⟩ d0 :), (BW.cell ⟨w', hb⟩ d1 :), (BW.cell ⟨w', hb⟩ d2 :)⟩
      have HC := Lib.hid C3
      clear C3
      go_enter Tryd.func54, Tryd.ntmps54
      go_wp2_with fail
      clear hwa
      refine (ih a (by simp) _ _ _ _ _ ha HV.out).mono ?_
      rintro e w1 ⟨rfl, b1⟩
      have H1 := Lib.hid b1
      obtain ⟨z0, z1, z2⟩ := HC.out w1 b1
      clear n0 n1 n2 c0 c1 c2 d0 d1 d2
      have n2 : w1.cell? ⟨w.heap.size, 2, none⟩ = some (.slice (some a') 2 ck) := by rw [(M0.out.below b1).cell]; rfl
      clear b1
      by_cases hn : null a = true
      · have HN := Lib.hid hn
        rw [hn]
        clear hn
        go_wp2_with fail
        refine (ih b (by simp) _ _ _ _ _ hb (HV'.out.under H1.out)).mono ?_
        rintro e w2 ⟨rfl, b2⟩
        clear n2 z0 z1 z2
        go_wp2
        go_ret
        exact ⟨ret_bool (by simp [null, nullAt, HN.out]), below_then HB.out (below_then H1.out b2)⟩
      · have HN : Hid (null a = !true) := by show _ = _; simpa using hn
        rw [HN.out]
        clear hn
        go_wp2
        go_ret
        exact ⟨ret_bool (by simp [null, nullAt, HN.out]), below_then HB.out H1.out⟩
    · obtain ⟨wa, hwa⟩ : ∃ x, x = w.alloc (.cells #[.int .i64 4, .slice A s.length c, .slice K 2 ck] 36) := ⟨_, rfl⟩
      have hb : Below w.heap.size w wa := by rw [hwa]; exact below_alloc (Below.refl _ _) _
      have m0 : Blk wa w.heap.size #[.int .i64 4, .slice A s.length c, .slice K 2 ck] 36 := by rw [hwa]; exact blk_new w _ _
      have HS := Lib.hid (hs.below hb)
      have HK := Lib.hid (hk.below hb)
      have HB := Lib.hid hb
      have M0 := Lib.hid m0
      clear hb m0 hs hk
      replace hwa := hwa.symm
      have N0 : ∀ x : BW wa, x.w1.cell? ⟨w.heap.size, 0, none⟩ = some (.int .i64 4) := fun x => by rw [(M0.out.below x.up).cell]; rfl
      have N1 : ∀ x : BW wa, x.w1.cell? ⟨w.heap.size, 1, none⟩ = some (.slice A s.length c) := fun x => by rw [(M0.out.below x.up).cell]; rfl
      have N2 : ∀ x : BW wa, x.w1.cell? ⟨w.heap.size, 2, none⟩ = some (.slice K 2 ck) := fun x => by rw [(M0.out.below x.up).cell]; rfl
      have n0 := N0 ⟨wa, Below.refl _ _⟩
      have n1 := N1 ⟨wa, Below.refl _ _⟩
      have n2 := N2 ⟨wa, Below.refl _ _⟩
      dsimp only at n0 n1 n2
      clear N0 N1 N2
      obtain ⟨a', x1, x2, y1, y2, rfl, hv, c0, c1, c2, hv', d0, d1, d2⟩ := HK.out.two
      have HV := Lib.hid hv
      have HV' := Lib.hid hv'
      clear hv hv'
      have C3 : ∀ w' : World, Below wa.heap.size wa w' → w'.cell? ⟨a'.block, a'.off + 3, none⟩ = some (.int .i64 b.kind) ∧ w'.cell? ⟨a'.block, a'.off + 3 + 1, none⟩ = some y1 ∧ w'.cell? ⟨a'.block, a'.off + 3 + 2, none⟩ = some y2 := fun w' hb =>
        ⟨(BW.cell ⟨w', hb⟩ d0 :), (BW.cell ⟨w', hb⟩ d1 :), (BW.cell ⟨w', hb⟩ d2 :)⟩
      have HC := Lib.hid C3
      clear C3
      go_enter Tryd.func54, Tryd.ntmps54
      go_wp2_with fail
      clear hwa
      refine (ih a (by simp) _ _ _ _ _ ha HV.out).mono ?_
      rintro e w1 ⟨rfl, b1⟩
      have H1 := Lib.hid b1
      obtain ⟨z0, z1, z2⟩ := HC.out w1 b1
      clear n0 n1 n2 c0 c1 c2 d0 d1 d2
      have n2 : w1.cell? ⟨w.heap.size, 2, none⟩ = some (.slice (some a') 2 ck) := by rw [(M0.out.below b1).cell]; rfl
      clear b1
      by_cases hn : null a = false
      · have HN := Lib.hid hn
        rw [hn]
        clear hn
        go_wp2_with fail
        refine (ih b (by simp) _ _ _ _ _ hb (HV'.out.under H1.out)).mono ?_
        rintro e w2 ⟨rfl, b2⟩
        clear n2 z0 z1 z2
        go_wp2
        go_ret
        exact ⟨ret_bool (by simp [null, nullAt, HN.out]), below_then HB.out (below_then H1.out b2)⟩
      · have HN : Hid (null a = !false) := by show _ = _; simpa using hn
        rw [HN.out]
        clear hn
        go_wp2
        go_ret
        exact ⟨ret_bool (by simp [null, nullAt, HN.out]), below_then HB.out H1.out⟩
    · obtain ⟨wa, hwa⟩ : ∃ x, x = w.alloc (.cells #[.int .i64 6, .slice A s.length c, .slice K 2 ck] 36) := ⟨_, rfl⟩
      have hb : Below w.heap.size w wa := by rw [hwa]; exact below_alloc (Below.refl _ _) _
      have m0 : Blk wa w.heap.size #[.int .i64 6, .slice A s.length c, .slice K 2 ck] 36 := by rw [hwa]; exact blk_new w _ _
      have HS := Lib.hid (hs.below hb)
      have HK := Lib.hid (hk.below hb)
      have HB := Lib.hid hb
      have M0 := Lib.hid m0
      clear hb m0 hs hk
      replace hwa := hwa.symm
      have N0 : ∀ x : BW wa, x.w1.cell? ⟨w.heap.size, 0, none⟩ = some (.int .i64 6) := fun x => by rw [(M0.out.below x.up).cell]; rfl
      have N1 : ∀ x : BW wa, x.w1.cell? ⟨w.heap.size, 1, none⟩ = some (.slice A s.length c) := fun x => by rw [(M0.out.below x.up).cell]; rfl
      have N2 : ∀ x : BW wa, x.w1.cell? ⟨w.heap.size, 2, none⟩ = some (.slice K 2 ck) := fun x => by rw [(M0.out.below x.up).cell]; rfl
      have n0 := N0 ⟨wa, Below.refl _ _⟩
      have n1 := N1 ⟨wa, Below.refl _ _⟩
      have n2 := N2 ⟨wa, Below.refl _ _⟩
      dsimp only at n0 n1 n2
      clear N0 N1 N2
      obtain ⟨a', x1, x2, y1, y2, rfl, hv, c0, c1, c2, hv', d0, d1, d2⟩ := HK.out.two
      have HV := Lib.hid hv
      have HV' := Lib.hid hv'
      clear hv hv'
      have C3 : ∀ w' : World, Below wa.heap.size wa w' → w'.cell? ⟨a'.block, a'.off + 3, none⟩ = some (.int .i64 b.kind) ∧ w'.cell? ⟨a'.block, a'.off + 3 + 1, none⟩ = some y1 ∧ w'.cell? ⟨a'.block, a'.off + 3 + 2, none⟩ = some y2 := fun w' hb =>
        ⟨(BW.cell ⟨w', hb⟩ d0 :), (BW.cell ⟨w', hb⟩ d1 :), (BW.cell ⟨w', hb⟩ d2 :)⟩
      have HC := Lib.hid C3
      clear C3
      go_enter Tryd.func54, Tryd.ntmps54
      go_wp2_with fail
      clear hwa
      refine (ih a (by simp) _ _ _ _ _ ha HV.out).mono ?_
      rintro e w1 ⟨rfl, b1⟩
      have H1 := Lib.hid b1
      obtain ⟨z0, z1, z2⟩ := HC.out w1 b1
      clear n0 n1 n2 c0 c1 c2 d0 d1 d2
      have n2 : w1.cell? ⟨w.heap.size, 2, none⟩ = some (.slice (some a') 2 ck) := by rw [(M0.out.below b1).cell]; rfl
      clear b1
      by_cases hn : null a = true
      · have HN := Lib.hid hn
        rw [hn]
        clear hn
        go_wp2_with fail
        refine (ih b (by simp) _ _ _ _ _ hb (HV'.out.under H1.out)).mono ?_
        rintro e w2 ⟨rfl, b2⟩
        clear n2 z0 z1 z2
        go_wp2
        go_ret
        exact ⟨ret_bool (by simp [null, nullAt, HN.out]), below_then HB.out (below_then H1.out b2)⟩
      · have HN : Hid (null a = !true) := by show _ = _; simpa using hn
        rw [HN.out]
        clear hn
        go_wp2
        go_ret
        exact ⟨ret_bool (by simp [null, nullAt, HN.out]), below_then HB.out H1.out⟩
def sNullOk (r : Rex) : Prop := ∀ (d : Nat) (v1 v2 : Value) (w : World) (lo : Nat), formed d r = true → RexV w lo r (.int .i64 r.kind) v1 v2 →
  Calls Tryd.prog 55 #[.agg #[.int .i64 r.kind, v1, v2]] w fun e w' => e = .returned (.bool (null r)) ∧ Below w.heap.size w w'
set_option maxHeartbeats 2000000 in
theorem sNull_c (r : Rex) : sNullOk r := by
  refine Rex.ind (p := sNullOk) (fun k s ks ih => ?_) r
  intro d v1 v2 w lo hd h
  obtain ⟨A, c, K, ck, _, rfl, rfl, hs, hk⟩ := h.parts
  dsimp only [Rex.kind, Rex.set, Rex.kids] at hs hk ⊢
  clear h
  rcases formed_shape hd with ⟨e, rfl⟩ | ⟨e, a, rfl, ha⟩ | ⟨e, a, b, rfl, ha, hb⟩
  · clear hd
    simp only [List.length_nil]
    rcases e with rfl | rfl
    · go_enter Tryd.func55, Tryd.ntmps55
      go_wp2
      go_ret
      exact ⟨rfl, below_alloc (Below.refl _ _) _⟩
    · go_enter Tryd.func55, Tryd.ntmps55
      go_wp2
      go_ret
      exact ⟨rfl, below_alloc (Below.refl _ _) _⟩
  · clear hd
    simp only [List.length_cons, List.length_nil, Nat.zero_add]
    rcases e with rfl | rfl
    · go_enter Tryd.func55, Tryd.ntmps55
      go_wp2
      go_ret
      exact ⟨rfl, below_alloc (Below.refl _ _) _⟩
    · obtain ⟨wa, hwa⟩ : ∃ x, x = w.alloc (.cells #[.int .i64 7, .slice A s.length c, .slice K 1 ck] 36) := ⟨_, rfl⟩
      have hb : Below w.heap.size w wa := by rw [hwa]; exact below_alloc (Below.refl _ _) _
      have m0 : Blk wa w.heap.size #[.int .i64 7, .slice A s.length c, .slice K 1 ck] 36 := by rw [hwa]; exact blk_new w _ _
      have HS := Lib.hid (hs.below hb)
      have HK := Lib.hid (hk.below hb)
      have HB := Lib.hid hb
      have M0 := Lib.hid m0
      clear hb m0 hs hk
      replace hwa := hwa.symm
      have N0 : ∀ x : BW wa, x.w1.cell? ⟨w.heap.size, 0, none⟩ = some (.int .i64 7) := fun x => by rw [(M0.out.below x.up).cell]; rfl
      have N1 : ∀ x : BW wa, x.w1.cell? ⟨w.heap.size, 1, none⟩ = some (.slice A s.length c) := fun x => by rw [(M0.out.below x.up).cell]; rfl
      have N2 : ∀ x : BW wa, x.w1.cell? ⟨w.heap.size, 2, none⟩ = some (.slice K 1 ck) := fun x => by rw [(M0.out.below x.up).cell]; rfl
      have n0 := N0 ⟨wa, Below.refl _ _⟩
      have n1 := N1 ⟨wa, Below.refl _ _⟩
      have n2 := N2 ⟨wa, Below.refl _ _⟩
      dsimp only at n0 n1 n2
      clear N0 N1 N2
      obtain ⟨a', x1, x2, rfl, hv, c0, c1, c2⟩ := HK.out.one
      have HV := Lib.hid hv
      clear hv
      go_enter Tryd.func55, Tryd.ntmps55
      go_wp2_with fail
      clear hwa
      refine (ih a (by simp) _ _ _ _ _ ha HV.out).mono ?_
      rintro e w1 ⟨rfl, b1⟩
      clear n0 n1 n2 c0 c1 c2
      go_wp2
      go_ret
      exact ⟨ret_bool (by simp [null, nullAt]), below_then HB.out b1⟩
  · clear hd
    simp only [List.length_cons, List.length_nil, Nat.zero_add, Nat.reduceAdd]
    rcases e with rfl | rfl | rfl
    · obtain ⟨wa, hwa⟩ : ∃ x, x = w.alloc (.cells #[.int .i64 3, .slice A s.length c, .slice K 2 ck] 36) := ⟨_, rfl⟩
      have hb : Below w.heap.size w wa := by rw [hwa]; exact below_alloc (Below.refl _ _) _
      have m0 : Blk wa w.heap.size #[.int .i64 3, .slice A s.length c, .slice K 2 ck] 36 := by rw [hwa]; exact blk_new w _ _
      have HS := Lib.hid (hs.below hb)
      have HK := Lib.hid (hk.below hb)
      have HB := Lib.hid hb
      have M0 := Lib.hid m0
      clear hb m0 hs hk
      replace hwa := hwa.symm
      have N0 : ∀ x : BW wa, x.w1.cell? ⟨w.heap.size, 0, none⟩ = some (.int .i64 3) := fun x => by rw [(M0.out.below x.up).cell]; rfl
      have N1 : ∀ x : BW wa, x.w1.cell? ⟨w.heap.size, 1, none⟩ = some (.slice A s.length c) := fun x => by rw [(M0.out.below x.up).cell]; rfl
      have N2 : ∀ x : BW wa, x.w1.cell? ⟨w.heap.size, 2, none⟩ = some (.slice K 2 ck) := fun x => by rw [(M0.out.below x.up).cell]; rfl
      have n0 := N0 ⟨wa, Below.refl _ _⟩
      have n1 := N1 ⟨wa, Below.refl _ _⟩
      have n2 := N2 ⟨wa, Below.refl _ _⟩
      dsimp only at n0 n1 n2
      clear N0 N1 N2
      obtain ⟨a', x1, x2, y1, y2, rfl, hv, c0, c1, c2, hv', d0, d1, d2⟩ := HK.out.two
      have HV := Lib.hid hv
      have HV' := Lib.hid hv'
      clear hv hv'
      have C3 : ∀ w' : World, Below wa.heap.size wa w' → w'.cell? ⟨a'.block, a'.off + 3, none⟩ = some (.int .i64 b.kind) ∧ w'.cell? ⟨a'.block, a'.off + 3 + 1, none⟩ = some y1 ∧ w'.cell? ⟨a'.block, a'.off + 3 + 2, none⟩ = some y2 := fun w' hb =>
        ⟨(BW.cell ⟨w', hb⟩ d0 :), (BW.cell ⟨w', hb⟩ d1 :), (BW.cell ⟨w', hb⟩ d2 :)⟩
      have HC := Lib.hid C3
      clear C3
      go_enter Tryd.func55, Tryd.ntmps55
      go_wp2_with fail
      clear hwa
      refine (ih a (by simp) _ _ _ _ _ ha HV.out).mono ?_
      rintro e w1 ⟨rfl, b1⟩
      have H1 := Lib.hid b1
      obtain ⟨z0, z1, z2⟩ := HC.out w1 b1
      clear n0 n1 n2 c0 c1 c2 d0 d1 d2
      have n2 : w1.cell? ⟨w.heap.size, 2, none⟩ = some (.slice (some a') 2 ck) := by rw [(M0.out.below b1).cell]; rfl
      clear b1
      by_cases hn : null a = true
      · have HN := Lib.hid hn
        rw [hn]
        clear hn
        go_wp2_with fail
        refine (ih b (by simp) _ _ _ _ _ hb (HV'.out.under H1.out)).mono ?_
        rintro e w2 ⟨rfl, b2⟩
        clear n2 z0 z1 z2
        go_wp2
        go_ret
        exact ⟨ret_bool (by simp [null, nullAt, HN.out]), below_then HB.out (below_then H1.out b2)⟩
      · have HN : Hid (null a = !true) := by show _ = _; simpa using hn
        rw [HN.out]
        clear hn
        go_wp2
        go_ret
        exact ⟨ret_bool (by simp [null, nullAt, HN.out]), below_then HB.out H1.out⟩
    · obtain ⟨wa, hwa⟩ : ∃ x, x = w.alloc (.cells #[.int .i64 4, .slice A s.length c, .slice K 2 ck] 36) := ⟨_, rfl⟩
      have hb : Below w.heap.size w wa := by rw [hwa]; exact below_alloc (Below.refl _ _) _
      have m0 : Blk wa w.heap.size #[.int .i64 4, .slice A s.length c, .slice K 2 ck] 36 := by rw [hwa]; exact blk_new w _ _
      have HS := Lib.hid (hs.below hb)
      have HK := Lib.hid (hk.below hb)
      have HB := Lib.hid hb
      have M0 := Lib.hid m0
      clear hb m0 hs hk
      replace hwa := hwa.symm
      have N0 : ∀ x : BW wa, x.w1.cell? ⟨w.heap.size, 0, none⟩ = some (.int .i64 4) := fun x => by rw [(M0.out.below x.up).cell]; rfl
      have N1 : ∀ x : BW wa, x.w1.cell? ⟨w.heap.size, 1, none⟩ = some (.slice A s.length c) := fun x => by rw [(M0.out.below x.up).cell]; rfl
      have N2 : ∀ x : BW wa, x.w1.cell? ⟨w.heap.size, 2, none⟩ = some (.slice K 2 ck) := fun x => by rw [(M0.out.below x.up).cell]; rfl
      have n0 := N0 ⟨wa, Below.refl _ _⟩
      have n1 := N1 ⟨wa, Below.refl _ _⟩
      have n2 := N2 ⟨wa, Below.refl _ _⟩
      dsimp only at n0 n1 n2
      clear N0 N1 N2
      obtain ⟨a', x1, x2, y1, y2, rfl, hv, c0, c1, c2, hv', d0, d1, d2⟩ := HK.out.two
      have HV := Lib.hid hv
      have HV' := Lib.hid hv'
      clear hv hv'
      have C3 : ∀ w' : World, Below wa.heap.size wa w' → w'.cell? ⟨a'.block, a'.off + 3, none⟩ = some (.int .i64 b.kind) ∧ w'.cell? ⟨a'.block, a'.off + 3 + 1, none⟩ = some y1 ∧ w'.cell? ⟨a'.block, a'.off + 3 + 2, none⟩ = some y2 := fun w' hb =>
        ⟨(BW.cell ⟨w', hb⟩ d0 :), (BW.cell ⟨w', hb⟩ d1 :), (BW.cell ⟨w', hb⟩ d2 :)⟩
      have HC := Lib.hid C3
      clear C3
      go_enter Tryd.func55, Tryd.ntmps55
      go_wp2_with fail
      clear hwa
      refine (ih a (by simp) _ _ _ _ _ ha HV.out).mono ?_
      rintro e w1 ⟨rfl, b1⟩
      have H1 := Lib.hid b1
      obtain ⟨z0, z1, z2⟩ := HC.out w1 b1
      clear n0 n1 n2 c0 c1 c2 d0 d1 d2
      have n2 : w1.cell? ⟨w.heap.size, 2, none⟩ = some (.slice (some a') 2 ck) := by rw [(M0.out.below b1).cell]; rfl
      clear b1
      by_cases hn : null a = false
      · have HN := Lib.hid hn
        rw [hn]
        clear hn
        go_wp2_with fail
        refine (ih b (by simp) _ _ _ _ _ hb (HV'.out.under H1.out)).mono ?_
        rintro e w2 ⟨rfl, b2⟩
        clear n2 z0 z1 z2
        go_wp2
        go_ret
        exact ⟨ret_bool (by simp [null, nullAt, HN.out]), below_then HB.out (below_then H1.out b2)⟩
      · have HN : Hid (null a = !false) := by show _ = _; simpa using hn
        rw [HN.out]
        clear hn
        go_wp2
        go_ret
        exact ⟨ret_bool (by simp [null, nullAt, HN.out]), below_then HB.out H1.out⟩
    · obtain ⟨wa, hwa⟩ : ∃ x, x = w.alloc (.cells #[.int .i64 6, .slice A s.length c, .slice K 2 ck] 36) := ⟨_, rfl⟩
      have hb : Below w.heap.size w wa := by rw [hwa]; exact below_alloc (Below.refl _ _) _
      have m0 : Blk wa w.heap.size #[.int .i64 6, .slice A s.length c, .slice K 2 ck] 36 := by rw [hwa]; exact blk_new w _ _
      have HS := Lib.hid (hs.below hb)
      have HK := Lib.hid (hk.below hb)
      have HB := Lib.hid hb
      have M0 := Lib.hid m0
      clear hb m0 hs hk
      replace hwa := hwa.symm
      have N0 : ∀ x : BW wa, x.w1.cell? ⟨w.heap.size, 0, none⟩ = some (.int .i64 6) := fun x => by rw [(M0.out.below x.up).cell]; rfl
      have N1 : ∀ x : BW wa, x.w1.cell? ⟨w.heap.size, 1, none⟩ = some (.slice A s.length c) := fun x => by rw [(M0.out.below x.up).cell]; rfl
      have N2 : ∀ x : BW wa, x.w1.cell? ⟨w.heap.size, 2, none⟩ = some (.slice K 2 ck) := fun x => by rw [(M0.out.below x.up).cell]; rfl
      have n0 := N0 ⟨wa, Below.refl _ _⟩
      have n1 := N1 ⟨wa, Below.refl _ _⟩
      have n2 := N2 ⟨wa, Below.refl _ _⟩
      dsimp only at n0 n1 n2
      clear N0 N1 N2
      obtain ⟨a', x1, x2, y1, y2, rfl, hv, c0, c1, c2, hv', d0, d1, d2⟩ := HK.out.two
      have HV := Lib.hid hv
      have HV' := Lib.hid hv'
      clear hv hv'
      have C3 : ∀ w' : World, Below wa.heap.size wa w' → w'.cell? ⟨a'.block, a'.off + 3, none⟩ = some (.int .i64 b.kind) ∧ w'.cell? ⟨a'.block, a'.off + 3 + 1, none⟩ = some y1 ∧ w'.cell? ⟨a'.block, a'.off + 3 + 2, none⟩ = some y2 := fun w' hb =>
        ⟨(BW.cell ⟨w', hb⟩ d0 :), (BW.cell ⟨w', hb⟩ d1 :), (BW.cell ⟨w', hb⟩ d2 :)⟩
      have HC := Lib.hid C3
      clear C3
      go_enter Tryd.func55, Tryd.ntmps55
      go_wp2_with fail
      clear hwa
      refine (ih a (by simp) _ _ _ _ _ ha HV.out).mono ?_
      rintro e w1 ⟨rfl, b1⟩
      have H1 := Lib.hid b1
      obtain ⟨z0, z1, z2⟩ := HC.out w1 b1
      clear n0 n1 n2 c0 c1 c2 d0 d1 d2
      have n2 : w1.cell? ⟨w.heap.size, 2, none⟩ = some (.slice (some a') 2 ck) := by rw [(M0.out.below b1).cell]; rfl
      clear b1
      by_cases hn : null a = true
      · have HN := Lib.hid hn
        rw [hn]
        clear hn
        go_wp2_with fail
        refine (ih b (by simp) _ _ _ _ _ hb (HV'.out.under H1.out)).mono ?_
        rintro e w2 ⟨rfl, b2⟩
        clear n2 z0 z1 z2
        go_wp2
        go_ret
        exact ⟨ret_bool (by simp [null, nullAt, HN.out]), below_then HB.out (below_then H1.out b2)⟩
      · have HN : Hid (null a = !true) := by show _ = _; simpa using hn
        rw [HN.out]
        clear hn
        go_wp2
        go_ret
        exact ⟨ret_bool (by simp [null, nullAt, HN.out]), below_then HB.out H1.out⟩

end Go.Proofs.YtlchipjckgaclaaDoor

/- Patterns as texts: plain. -/
namespace Go.Proofs.YtlchipjckgaclaaDoor
set_option linter.unusedSimpArgs false
set_option linter.unusedVariables false
set_option maxRecDepth 100000

/-- the word of a kind -/
def kw (k : Int) : List UInt8 :=
  if k = 1 then [115, 101, 116] else if k = 2 then [101, 109, 112, 116, 121] else if k = 3 then [99, 97, 116] else if k = 4 then [111, 114] else if k = 5 then [115, 116, 97, 114] else if k = 6 then [97, 110, 100] else if k = 7 then [110, 111, 116] else []
mutual
def wordsOf : Rex → List (List UInt8)
  | .mk k s ks => kw k :: ((if k = 1 then [setTxt s] else []) ++ wordsL ks)
def wordsL : List Rex → List (List UInt8)
  | [] => []
  | r :: rs => wordsOf r ++ wordsL rs
end
def rexTxt (r : Rex) : List UInt8 := Lib.join (wordsOf r) [32]
theorem wordsL_take {ks : List Rex} {j : Nat} {r : Rex} (h : ks[j]? = some r) : wordsL (ks.take (j + 1)) = wordsL (ks.take j) ++ wordsOf r := by
  induction ks generalizing j with
  | nil => simp at h
  | cons x xs ih =>
    cases j with
    | zero =>
      obtain rfl := Option.some.inj h
      simp [wordsL]
    | succ j => rw [List.take_succ_cons, List.take_succ_cons, wordsL, wordsL, ih (by simpa using h), List.append_assoc]
theorem tail_join (w : List UInt8) (ws : List (List UInt8)) : Lib.joinTail [32] (w :: ws) = 32 :: Lib.join (w :: ws) [32] := by
  rw [Lib.join_cons]
  simp [Lib.joinTail]
theorem tail_app (a b : List (List UInt8)) : Lib.joinTail [32] (a ++ b) = Lib.joinTail [32] a ++ Lib.joinTail [32] b := by simp [Lib.joinTail]
theorem tail_words (r : Rex) : Lib.joinTail [32] (wordsOf r) = 32 :: rexTxt r := by
  obtain ⟨k, s, ks⟩ := r
  unfold rexTxt
  rw [wordsOf]
  exact tail_join _ _
/-- the kids' texts -/
def kidTxts : List Rex → List UInt8
  | [] => []
  | r :: rs => 32 :: (rexTxt r ++ kidTxts rs)
theorem tail_wordsL : ∀ ks : List Rex, Lib.joinTail [32] (wordsL ks) = kidTxts ks
  | [] => rfl
  | r :: rs => by rw [wordsL, tail_app, tail_words, tail_wordsL rs, kidTxts]; simp
theorem kidTxts_take {ks : List Rex} {j : Nat} {r : Rex} (h : ks[j]? = some r) : kidTxts (ks.take (j + 1)) = kidTxts (ks.take j) ++ (32 :: rexTxt r) := by
  rw [← tail_wordsL, ← tail_wordsL, wordsL_take h, tail_app, tail_words]
theorem rexTxt_set (s : List Sp) : rexTxt (.mk 1 s []) = (kw 1 ++ [32]) ++ setTxt s := by
  unfold rexTxt
  rw [wordsOf, if_pos rfl, wordsL, List.append_nil, Lib.join_cons]
  simp [Lib.joinTail]
theorem rexTxt_kids {k : Int} (h : k ≠ 1) (s : List Sp) (ks : List Rex) : rexTxt (.mk k s ks) = kw k ++ kidTxts ks := by
  unfold rexTxt
  rw [wordsOf, if_neg h, List.nil_append, Lib.join_cons, tail_wordsL]
theorem kw_len (k : Int) : (kw k).length ≤ 5 := by
  unfold kw
  repeat' split
  all_goals decide
/-- the sets of a right tree -/
theorem ok_go {p : Option Int} : ∀ {xs : List Sp}, setOkGo p xs = true → ∀ x ∈ xs, 0 ≤ x.lo ∧ x.lo ≤ x.hi ∧ x.hi ≤ 255
  | [], _, x, h => by simp at h
  | y :: ys, h, x, hx => by
    rw [setOkGo, Bool.and_eq_true] at h
    rcases List.mem_cons.1 hx with rfl | hx
    · have h1 := h.1
      simp [spBad] at h1
      omega
    · exact ok_go h.2 x hx
theorem ok_64 {xs : List Sp} (h : setOk xs = true) : sp64 xs := fun x hx => by
  have := ok_go (show setOkGo none xs = true from h) x hx
  unfold in64
  omega

end Go.Proofs.YtlchipjckgaclaaDoor

/- Texts tell apart what they are of: plain law. -/
namespace Go.Proofs.YtlchipjckgaclaaDoor
set_option linter.unusedSimpArgs false
set_option linter.unusedVariables false
set_option maxRecDepth 100000

/-! ### words between separators -/
/-- two words without the separator, each at the end or ahead of it -/
theorem word_eq {sep : UInt8} : ∀ {w w' : List UInt8} {t t' : List UInt8}, sep ∉ w → sep ∉ w' → (t = [] ∨ ∃ u, t = sep :: u) → (t' = [] ∨ ∃ u, t' = sep :: u) → w ++ t = w' ++ t' → w = w' ∧ t = t'
  | [], [], t, t', _, _, _, _, h => ⟨rfl, by simpa using h⟩
  | [], b :: w', t, t', _, h2, h3, _, h => by
    exfalso
    rw [List.nil_append, List.cons_append] at h
    rcases h3 with rfl | ⟨u, rfl⟩
    · cases h
    · injection h with e _
      exact h2 (by simp [e])
  | a :: w, [], t, t', h1, _, _, h4, h => by
    exfalso
    rw [List.nil_append, List.cons_append] at h
    rcases h4 with rfl | ⟨u, rfl⟩
    · cases h
    · injection h with e _
      exact h1 (by simp [e])
  | a :: w, b :: w', t, t', h1, h2, h3, h4, h => by
    rw [List.cons_append, List.cons_append] at h
    injection h with e1 e2
    obtain ⟨e3, e4⟩ := word_eq (fun hm => h1 (by simp [hm])) (fun hm => h2 (by simp [hm])) h3 h4 e2
    exact ⟨by rw [e1, e3], e4⟩
theorem tail_form (sep : UInt8) (ws : List (List UInt8)) : Lib.joinTail [sep] ws = [] ∨ ∃ u, Lib.joinTail [sep] ws = sep :: u := by
  cases ws with
  | nil => exact .inl rfl
  | cons w ws => exact .inr ⟨w ++ Lib.joinTail [sep] ws, by simp [Lib.joinTail]⟩
theorem tail_eq {sep : UInt8} : ∀ {ws ws' : List (List UInt8)}, (∀ w ∈ ws, sep ∉ w) → (∀ w ∈ ws', sep ∉ w) → Lib.joinTail [sep] ws = Lib.joinTail [sep] ws' → ws = ws'
  | [], [], _, _, _ => rfl
  | [], w :: ws', _, _, h => by simp [Lib.joinTail] at h
  | w :: ws, [], _, _, h => by simp [Lib.joinTail] at h
  | w :: ws, w' :: ws', h1, h2, h => by
    have e : ∀ (x : List UInt8) (xs : List (List UInt8)), Lib.joinTail [sep] (x :: xs) = sep :: (x ++ Lib.joinTail [sep] xs) := fun x xs => by simp [Lib.joinTail]
    rw [e, e] at h
    injection h with _ h
    obtain ⟨e1, e2⟩ := word_eq (h1 w (by simp)) (h2 w' (by simp)) (tail_form sep ws) (tail_form sep ws') h
    rw [e1, tail_eq (fun x hx => h1 x (by simp [hx])) (fun x hx => h2 x (by simp [hx])) e2]
theorem join_eq {sep : UInt8} {ws ws' : List (List UInt8)} (h1 : ∀ w ∈ ws, sep ∉ w) (h2 : ∀ w ∈ ws', sep ∉ w) (hn : ws ≠ []) (hn' : ws' ≠ []) (h : Lib.join ws [sep] = Lib.join ws' [sep]) : ws = ws' := by
  cases ws with
  | nil => exact absurd rfl hn
  | cons w ws =>
    cases ws' with
    | nil => exact absurd rfl hn'
    | cons w' ws' =>
      rw [Lib.join_cons, Lib.join_cons] at h
      obtain ⟨e1, e2⟩ := word_eq (h1 w (by simp)) (h2 w' (by simp)) (tail_form sep ws) (tail_form sep ws') h
      rw [e1, tail_eq (fun x hx => h1 x (by simp [hx])) (fun x hx => h2 x (by simp [hx])) e2]

/-! ### numbers -/
def isDig (b : UInt8) : Bool := decide (48 ≤ b.toNat) && decide (b.toNat ≤ 57)
def digVal (l : List UInt8) : Nat := l.foldl (fun a b => 10 * a + (b.toNat - 48)) 0
theorem dig_snoc (l : List UInt8) (b : UInt8) : digVal (l ++ [b]) = 10 * digVal l + (b.toNat - 48) := by simp [digVal]
theorem ofNat_dig {n : Nat} (h : n < 10) : (UInt8.ofNat (48 + n)).toNat = 48 + n := by simp; omega
theorem dec_val (u : Nat) : digVal (Lib.decDigits u) = u := by
  induction u using Nat.strongRecOn with
  | ind u ih =>
    by_cases h : u < 10
    · rw [Lib.decDigits, dif_pos h]
      have := ofNat_dig h
      simp only [digVal, List.foldl_cons, List.foldl_nil, this]
      omega
    · rw [Lib.decDigits, dif_neg h, dig_snoc, ih (u / 10) (by omega), ofNat_dig (by omega)]
      omega
theorem dec_dig (u : Nat) : ∀ b ∈ Lib.decDigits u, isDig b = true := by
  induction u using Nat.strongRecOn with
  | ind u ih =>
    intro b hb
    by_cases h : u < 10
    · rw [Lib.decDigits, dif_pos h] at hb
      rw [List.mem_singleton.1 hb]
      unfold isDig
      rw [ofNat_dig h]
      simp
      omega
    · rw [Lib.decDigits, dif_neg h] at hb
      rcases List.mem_append.1 hb with hb | hb
      · exact ih (u / 10) (by omega) b hb
      · rw [List.mem_singleton.1 hb]
        unfold isDig
        rw [ofNat_dig (by omega)]
        simp
        omega
theorem dec_inj {u v : Nat} (h : Lib.decDigits u = Lib.decDigits v) : u = v := by
  have := congrArg digVal h
  rwa [dec_val, dec_val] at this
theorem itoa_nat {n : Int} (h : 0 ≤ n) : Lib.itoa n = Lib.decDigits n.toNat := by
  unfold Lib.itoa
  rw [if_neg (by omega)]
theorem not_dig {b : UInt8} {l : List UInt8} (hl : ∀ x ∈ l, isDig x = true) (hb : isDig b = false) : b ∉ l := fun h => by
  have := hl b h
  rw [hb] at this
  cases this

end Go.Proofs.YtlchipjckgaclaaDoor

/- Numbers read: natural of the program. -/
namespace Go.Proofs.YtlchipjckgaclaaDoor
set_option linter.unusedSimpArgs false
set_option linter.unusedVariables false
set_option maxRecDepth 100000
open Go.RowKit

def natural (l : List UInt8) : Option Nat := if l.length < 1 ∨ 6 < l.length ∨ (l.head? = some 48 ∧ 1 < l.length) then none else if l.all isDig then some (digVal l) else none
theorem natural_no1 {l : List UInt8} (h : l.length < 1 ∨ 6 < l.length ∨ (l.head? = some 48 ∧ 1 < l.length)) : natural l = none := if_pos h
theorem natural_of {l : List UInt8} (h : ¬ (l.length < 1 ∨ 6 < l.length ∨ (l.head? = some 48 ∧ 1 < l.length))) : natural l = if l.all isDig then some (digVal l) else none := if_neg h
abbrev natV (o : Option Nat) : Value := .tuple #[.int .i64 ((o.getD 0 : Nat) : Int), .bool o.isSome]
theorem dig_take {l : List UInt8} {i : Nat} {b : UInt8} (h : l[i]? = some b) : digVal (l.take (i + 1)) = 10 * digVal (l.take i) + (b.toNat - 48) := by
  rw [List.take_add_one, h]
  exact dig_snoc _ _
theorem dig_bound : ∀ (l : List UInt8), (∀ b ∈ l, isDig b = true) → digVal l < 10 ^ l.length := by
  intro l
  have key : ∀ n (l : List UInt8), l.length = n → (∀ b ∈ l, isDig b = true) → digVal l < 10 ^ l.length := by
    intro n
    induction n with
    | zero => intro l hl _; rw [List.length_eq_zero_iff.1 hl]; decide
    | succ n ih =>
      intro l hl h
      rcases List.eq_nil_or_concat l with rfl | ⟨m, b, rfl⟩
      · simp at hl
      · rw [List.concat_eq_append] at hl h ⊢
        have hm : m.length = n := by simpa using hl
        have h1 := ih m hm fun x hx => h x (by simp [hx])
        have h2 := h b (by simp)
        unfold isDig at h2
        simp at h2
        rw [dig_snoc, List.length_append, List.length_singleton, Nat.pow_succ]
        omega
  exact key _ l rfl

set_option maxHeartbeats 2000000 in
theorem iNatural_c (t : ByteArray) (w : World) (hs : t.size ≤ 4294967280) :
    Calls Tryd.prog 65 #[.string t] w fun e w' => e = .returned (natV (natural t.data.toList)) ∧ w = w' := by
  have hl : t.data.toList.length = t.size := by rw [Array.length_toList]; rfl
  have HL := Lib.hid hl
  clear hl
  go_enter Tryd.func65, Tryd.ntmps65
  by_cases h1 : t.size = 0
  · have E : Hid (natural t.data.toList = none) := natural_no1 (.inl (by rw [HL.out]; omega))
    have g1 : (t.size : Int) < 1 := by omega
    have g2 : decide ((t.size : Int) < 1) = true := by simp; omega
    clear h1
    go_wp2_with fail
    exact bodyPost_ret (v := .tuple #[.int .i64 0, .bool false]) (by simp [results, Tryd.results65, go_sem]) rfl ⟨by rw [E.out]; rfl, rfl⟩
  by_cases h6 : 6 < t.size
  · have E : Hid (natural t.data.toList = none) := natural_no1 (.inr (.inl (by rw [HL.out]; omega)))
    have g0 : ¬ (t.size : Int) < 1 := by omega
    have g1 : (6 : Int) < (t.size : Int) := by omega
    clear h1 h6
    go_wp2_with fail
    exact bodyPost_ret (v := .tuple #[.int .i64 0, .bool false]) (by simp [results, Tryd.results65, go_sem]) rfl ⟨by rw [E.out]; rfl, rfl⟩
  have g0 : ¬ (t.size : Int) < 1 := by omega
  have g1 : ¬ (6 : Int) < (t.size : Int) := by omega
  have hs0 : 0 < t.size := by omega
  have hs0' : (0 : Int) < (t.size : Int) := by omega
  have HB : Hid (t.data.toList[0]? = some t[0]) := by show _ = _; rw [Array.getElem?_toList, Array.getElem?_eq_getElem hs0]; rfl
  have HH : Hid (t.data.toList.head? = some t[0]) := by show _ = _; rw [List.head?_eq_getElem?]; exact HB.out
  obtain ⟨c, hc⟩ : ∃ c, c = t[0] := ⟨_, rfl⟩
  rw [← hc] at HB HH
  have HC := Lib.hid hc
  by_cases h48 : c.toNat = 48
  · by_cases h2 : 1 < t.size
    · have E : Hid (natural t.data.toList = none) := natural_no1 (.inr (.inr ⟨by rw [HH.out]; exact congrArg some (UInt8.toNat_inj.1 h48), by rw [HL.out]; omega⟩))
      have d0 : ((t[0].toNat : Int) == 48) = true := by rw [← hc]; simp [h48]
      have d1 : (1 : Int) < (t.size : Int) := by omega
      clear h1 h6 h48 h2 hc
      go_wp2_with fail
      exact bodyPost_ret (v := .tuple #[.int .i64 0, .bool false]) (by simp [results, Tryd.results65, go_sem]) rfl ⟨by rw [E.out]; rfl, rfl⟩
    · have E := Lib.hid (natural_of (l := t.data.toList) (by rw [HL.out]; omega))
      have d0 : ((t[0].toNat : Int) == 48) = true := by rw [← hc]; simp [h48]
      have d1 : ¬ (1 : Int) < (t.size : Int) := by omega
      clear h1 h6 h48 h2 hc
      have hsz : t.size ≤ 6 := by omega
      clear g0 g1
      go_wp2_with fail
      clear d0
      go_loopg [4, 5] t.size (fun n v4 v5 wr => ∃ i : Nat, i + n = t.size ∧ v5 = .int .i64 i ∧ ∃ m : Nat, v4 = .int .i64 m ∧ Hid (m = digVal (t.data.toList.take i)) ∧ Hid (∀ b ∈ t.data.toList.take i, isDig b = true) ∧ w = wr)
      case atStart => exact ⟨0, by omega, rfl, 0, rfl, rfl, fun b hb => by simp at hb, rfl⟩
      case round =>
        obtain ⟨i, hi, rfl, m, rfl, HM, HD, rfl⟩ := hrel
        by_cases hlt : i < t.size
        · have i0 : (0 : Int) ≤ (i : Int) := by omega
          have i1 : (i : Int) < (t.size : Int) := by omega
          have HBI : Hid (t.data.toList[i]? = some t[i]) := by show _ = _; rw [Array.getElem?_toList, Array.getElem?_eq_getElem hlt]; rfl
          have hm : m < 1000000 := by
            have h1 := dig_bound _ HD.out
            have h2 : (t.data.toList.take i).length ≤ 6 := by rw [List.length_take]; omega
            have h3 : 10 ^ (t.data.toList.take i).length ≤ 10 ^ 6 := Nat.pow_le_pow_right (by decide) h2
            rw [HM.out]
            omega
          obtain ⟨b, hb⟩ : ∃ b, b = t[i] := ⟨_, rfl⟩
          have hb256 := b.toNat_lt
          rw [← hb] at HBI
          by_cases hdig : isDig b = true
          · have hd2 := hdig
            unfold isDig at hd2
            simp only [Bool.and_eq_true, decide_eq_true_eq] at hd2
            have e0 : (decide ((48 : Int) ≤ ((t[i].toNat : Nat) : Int)) && decide (((t[i].toNat : Nat) : Int) ≤ 57)) = true := by rw [← hb]; simp; omega
            have e1 : IntKind.u8.wrap ((t[i].toNat : Int) - 48) = (t[i].toNat : Int) - 48 := by rw [← hb]; exact IntWalk.u8_in _ (by omega)
            have e2 : IntKind.i64.wrap (t[i].toNat : Int) = (t[i].toNat : Int) := by rw [← hb]; exact IntWalk.i64_in _ (by omega)
            have hb' := Lib.hid hb
            have HDG := Lib.hid hdig
            have HD2 := Lib.hid hd2
            clear hb hdig hd2
            go_wp2_with (go_at_call 71; refine (in_c _ _ _ _).mono ?_; rintro e w' ⟨rfl, rfl⟩)
            go_roundg (gk - 1)
            case measure => omega
            case rel =>
              have hb := hb'.out
              have hd2 := HD2.out
              refine ⟨i + 1, by omega, by go_num, 10 * m + (b.toNat - 48), ?_, ?_, ?_, rfl⟩
              · rw [← hb, Go.IntWalk.wrap64_in ((b.toNat : Int) - 48) (by omega), Go.IntWalk.wrap64_in _ (by omega)]
                exact congrArg (Value.int .i64) (by omega)
              · show _ = _
                rw [dig_take HBI.out, HM.out]
              · intro x hx
                rw [List.take_add_one, HBI.out] at hx
                rcases List.mem_append.1 hx with hx | hx
                · exact HD.out x hx
                · simp at hx
                  rw [hx]
                  exact HDG.out
          · have hf : isDig b = false := by simpa using hdig
            have e0 : (decide ((48 : Int) ≤ ((t[i].toNat : Nat) : Int)) && decide (((t[i].toNat : Nat) : Int) ≤ 57)) = false := by
              rw [← hb]
              unfold isDig at hf
              simp at hf ⊢
              omega
            have e2 : IntKind.i64.wrap (t[i].toNat : Int) = (t[i].toNat : Int) := by rw [← hb]; exact IntWalk.i64_in _ (by omega)
            have EN : Hid (natural t.data.toList = none) := by
              show _ = _
              rw [E.out, if_neg]
              intro hall
              have := List.all_eq_true.1 hall b (List.mem_of_getElem? HBI.out)
              rw [hf] at this
              cases this
            clear E
            have E := EN
            clear hb hdig hf EN
            go_wp2_with (go_at_call 71; refine (in_c _ _ _ _).mono ?_; rintro e w' ⟨rfl, rfl⟩)
            exact bodyPost_ret (v := .tuple #[.int .i64 0, .bool false]) (by simp [results, Tryd.results65, go_sem]) rfl ⟨by rw [E.out]; rfl, rfl⟩
        · have hit : i = t.size := by omega
          have htk : t.data.toList.take i = t.data.toList := List.take_of_length_le (by rw [HL.out]; omega)
          rw [htk] at HM HD
          have EN : Hid (natural t.data.toList = some m) := by
            show _ = _
            rw [E.out, if_pos (List.all_eq_true.2 HD.out), HM.out]
          clear hit htk
          go_wp2_with fail
          exact bodyPost_ret (v := .tuple #[.int .i64 m, .bool true]) (by simp [results, Tryd.results65, go_sem]) rfl ⟨by rw [EN.out]; rfl, rfl⟩
  · have E := Lib.hid (natural_of (l := t.data.toList) (by
      rw [HL.out, HH.out]
      rintro (h | h | ⟨h, _⟩)
      · omega
      · omega
      · injection h with h; exact h48 (by rw [h]; rfl)))
    have d0 : ((t[0].toNat : Int) == 48) = false := by rw [← hc, beq_eq_false_iff_ne]; omega
    clear h1 h48 hc
    have hsz : t.size ≤ 6 := by omega
    clear g0 g1
    go_wp2_with fail
    clear d0
    go_loopg [4, 5] t.size (fun n v4 v5 wr => ∃ i : Nat, i + n = t.size ∧ v5 = .int .i64 i ∧ ∃ m : Nat, v4 = .int .i64 m ∧ Hid (m = digVal (t.data.toList.take i)) ∧ Hid (∀ b ∈ t.data.toList.take i, isDig b = true) ∧ w = wr)
    case atStart => exact ⟨0, by omega, rfl, 0, rfl, rfl, fun b hb => by simp at hb, rfl⟩
    case round =>
      obtain ⟨i, hi, rfl, m, rfl, HM, HD, rfl⟩ := hrel
      by_cases hlt : i < t.size
      · have i0 : (0 : Int) ≤ (i : Int) := by omega
        have i1 : (i : Int) < (t.size : Int) := by omega
        have HBI : Hid (t.data.toList[i]? = some t[i]) := by show _ = _; rw [Array.getElem?_toList, Array.getElem?_eq_getElem hlt]; rfl
        have hm : m < 1000000 := by
          have h1 := dig_bound _ HD.out
          have h2 : (t.data.toList.take i).length ≤ 6 := by rw [List.length_take]; omega
          have h3 : 10 ^ (t.data.toList.take i).length ≤ 10 ^ 6 := Nat.pow_le_pow_right (by decide) h2
          rw [HM.out]
          omega
        obtain ⟨b, hb⟩ : ∃ b, b = t[i] := ⟨_, rfl⟩
        have hb256 := b.toNat_lt
        rw [← hb] at HBI
        by_cases hdig : isDig b = true
        · have hd2 := hdig
          unfold isDig at hd2
          simp only [Bool.and_eq_true, decide_eq_true_eq] at hd2
          have e0 : (decide ((48 : Int) ≤ ((t[i].toNat : Nat) : Int)) && decide (((t[i].toNat : Nat) : Int) ≤ 57)) = true := by rw [← hb]; simp; omega
          have e1 : IntKind.u8.wrap ((t[i].toNat : Int) - 48) = (t[i].toNat : Int) - 48 := by rw [← hb]; exact IntWalk.u8_in _ (by omega)
          have e2 : IntKind.i64.wrap (t[i].toNat : Int) = (t[i].toNat : Int) := by rw [← hb]; exact IntWalk.i64_in _ (by omega)
          have hb' := Lib.hid hb
          have HDG := Lib.hid hdig
          have HD2 := Lib.hid hd2
          clear hb hdig hd2
          go_wp2_with (go_at_call 71; refine (in_c _ _ _ _).mono ?_; rintro e w' ⟨rfl, rfl⟩)
          go_roundg (gk - 1)
          case measure => omega
          case rel =>
            have hb := hb'.out
            have hd2 := HD2.out
            refine ⟨i + 1, by omega, by go_num, 10 * m + (b.toNat - 48), ?_, ?_, ?_, rfl⟩
            · rw [← hb, Go.IntWalk.wrap64_in ((b.toNat : Int) - 48) (by omega), Go.IntWalk.wrap64_in _ (by omega)]
              exact congrArg (Value.int .i64) (by omega)
            · show _ = _
              rw [dig_take HBI.out, HM.out]
            · intro x hx
              rw [List.take_add_one, HBI.out] at hx
              rcases List.mem_append.1 hx with hx | hx
              · exact HD.out x hx
              · simp at hx
                rw [hx]
                exact HDG.out
        · have hf : isDig b = false := by simpa using hdig
          have e0 : (decide ((48 : Int) ≤ ((t[i].toNat : Nat) : Int)) && decide (((t[i].toNat : Nat) : Int) ≤ 57)) = false := by
            rw [← hb]
            unfold isDig at hf
            simp at hf ⊢
            omega
          have e2 : IntKind.i64.wrap (t[i].toNat : Int) = (t[i].toNat : Int) := by rw [← hb]; exact IntWalk.i64_in _ (by omega)
          have EN : Hid (natural t.data.toList = none) := by
            show _ = _
            rw [E.out, if_neg]
            intro hall
            have := List.all_eq_true.1 hall b (List.mem_of_getElem? HBI.out)
            rw [hf] at this
            cases this
          clear E
          have E := EN
          clear hb hdig hf EN
          go_wp2_with (go_at_call 71; refine (in_c _ _ _ _).mono ?_; rintro e w' ⟨rfl, rfl⟩)
          exact bodyPost_ret (v := .tuple #[.int .i64 0, .bool false]) (by simp [results, Tryd.results65, go_sem]) rfl ⟨by rw [E.out]; rfl, rfl⟩
      · have hit : i = t.size := by omega
        have htk : t.data.toList.take i = t.data.toList := List.take_of_length_le (by rw [HL.out]; omega)
        rw [htk] at HM HD
        have EN : Hid (natural t.data.toList = some m) := by
          show _ = _
          rw [E.out, if_pos (List.all_eq_true.2 HD.out), HM.out]
        clear hit htk
        go_wp2_with fail
        exact bodyPost_ret (v := .tuple #[.int .i64 m, .bool true]) (by simp [results, Tryd.results65, go_sem]) rfl ⟨by rw [EN.out]; rfl, rfl⟩

end Go.Proofs.YtlchipjckgaclaaDoor
