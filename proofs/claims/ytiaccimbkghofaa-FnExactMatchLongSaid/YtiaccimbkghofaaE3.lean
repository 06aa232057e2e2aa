/- l3Is: whether a text is like a tree, by the reference. -/
import Derived.Test.YtiaccimbkghofaaE2
import Derived.Test.YtiaccimbkghofaaW1h
import Derived.Laws.Strings
import Derived.IntWalk
namespace Go.Proofs.Ytiaccimbkghofaa
set_option linter.unusedSimpArgs false
set_option linter.unusedVariables false
open Go.RowKit

theorem byte0 (t : ByteArray) (h : t.size = 1) : ∃ hx : 0 < t.size, t.data.toList = [t[0]'hx] := by
  refine ⟨by omega, ?_⟩
  obtain ⟨⟨l⟩⟩ := t
  match l, h with
  | [x], _ => rfl
set_option maxRecDepth 100000 in
set_option maxHeartbeats 400000 in
theorem is_set (s : List Sp) (t : ByteArray) (A K : Option Addr) (c ck : Nat) (w : World) (lo : Nat) (hs : Sps w lo A c s) :
    Calls Try.prog 76 #[.agg #[.int .i64 1, .slice A s.length c, .slice K 0 ck], .string t] w fun e w' => e = .returned (.bool (lang (.mk 1 s []) t.data.toList)) ∧ Below w.heap.size w w' := by
  obtain ⟨wa, hwa⟩ : ∃ x, x = w.alloc (.cells #[.int .i64 1, .slice A s.length c, .slice K 0 ck] 31) := ⟨_, rfl⟩
  have hbb : Below w.heap.size w wa := by rw [hwa]; exact below_alloc (Below.refl _ _) _
  have m0 : Blk wa w.heap.size #[.int .i64 1, .slice A s.length c, .slice K 0 ck] 31 := by rw [hwa]; exact blk_new w _ _
  have HS := Lib.hid (hs.below hbb)
  have HB := Lib.hid hbb
  have M0 := Lib.hid m0
  replace hwa := hwa.symm
  have n0 : wa.cell? ⟨w.heap.size, 0, none⟩ = some (.int .i64 1) := by rw [m0.cell]; rfl
  have N1 : ∀ x : BW wa, x.w1.cell? ⟨w.heap.size, 1, none⟩ = some (.slice A s.length c) := fun x => by rw [(M0.out.below x.up).cell]; rfl
  clear hbb m0 hs
  by_cases h1 : t.size = 1
  · obtain ⟨i1, hl⟩ := byte0 t h1
    have d1 : ((t.size : Int) == 1) = true := by simp [h1]
    have i0 : (0 : Int) < (t.size : Int) := by omega
    have HH : Hid (setHas s (wrap64 (t[0].toNat : Int)) = lang (.mk 1 s []) t.data.toList) := by show _ = _; rw [lang1, hl, Go.IntWalk.wrap64_in _ (by have := t[0].toNat_lt; omega)]; rfl
    clear hl h1
    go_enter Try.func76, Try.ntmps76
    go_wp2
    clear hwa
    refine wp_region_bw (by kernel_rfl) (by kernel_rfl) ?_
    repeat (go_big_quiet_step ((go_at_call 94; with_reducible exact Calls.bw_d (bv HH.out) (sSetHas_c _ _ _ _ _ (HS.out.below (BW.up _))))))
    refine wpQuiet_nil ?_
    rintro w1 ⟨x1, y1⟩
    have b1 : Below wa.heap.size wa w1 := y1 ▸ x1.up
    clear y1 x1 N1
    go_wp2
    go_ret
    exact ⟨rfl, below_then HB.out b1⟩
  · have d1 : ((t.size : Int) == 1) = false := by rw [beq_eq_false_iff_ne]; omega
    have d1' : (t.size == 1) = false := by simp [h1]
    have HH : Hid (lang (.mk 1 s []) t.data.toList = false) := by
      show _ = _
      rw [lang1]
      have e1 := tl_len t
      match t.data.toList, e1 with
      | [], _ => rfl
      | [x], e1 => simp at e1; omega
      | x :: y :: l, _ => rfl
    clear h1
    go_enter Try.func76, Try.ntmps76
    go_wp2
    clear hwa
    refine wp_region_bw (by kernel_rfl) (by kernel_rfl) ?_
    repeat (go_big_quiet_step ((fail)))
    refine wpQuiet_nil ?_
    rintro w1 ⟨x1, y1⟩
    have b1 : Below wa.heap.size wa w1 := y1 ▸ x1.up
    clear y1 x1 N1
    go_wp2
    go_ret
    exact ⟨ret_bool HH.out.symm, below_then HB.out b1⟩

set_option maxRecDepth 100000 in
set_option maxHeartbeats 400000 in
theorem is_empty (s : List Sp) (t : ByteArray) (A K : Option Addr) (c ck : Nat) (w : World) :
    Calls Try.prog 76 #[.agg #[.int .i64 2, .slice A s.length c, .slice K 0 ck], .string t] w fun e w' => e = .returned (.bool (lang (.mk 2 s []) t.data.toList)) ∧ Below w.heap.size w w' := by
  have HL : Hid (lang (.mk 2 s []) t.data.toList = t.data.toList.isEmpty) := lang2 _ _ _
  have HB := Lib.hid (below_alloc (Below.refl w.heap.size w) (.cells #[.int .i64 2, .slice A s.length c, .slice K 0 ck] 31))
  go_enter Try.func76, Try.ntmps76
  go_wp2
  go_ret
  exact ⟨ret_bool (by rw [HL.out, Go.ByteArray.toList_eq]), HB.out⟩
set_option maxRecDepth 100000 in
set_option maxHeartbeats 2000000 in
theorem l3Is_c (r : Rex) : LangOk r := by
  refine Rex.ind (p := LangOk) (fun k s ks ih => ?_) r
  intro d t v1 v2 w lo hd ht h
  obtain ⟨A, c, K, ck, _, rfl, rfl, hs, hk⟩ := h.parts
  dsimp only [Rex.kind, Rex.set, Rex.kids] at hs hk ⊢
  clear h
  rcases formed_shape hd with ⟨e, rfl⟩ | ⟨e, a, rfl, ha⟩ | ⟨e, a, b, rfl, ha, hb⟩
  · clear hd
    simp only [List.length_nil] at hk ⊢
    rcases e with rfl | rfl
    · exact is_set s t A K c ck w lo hs
    · exact is_empty s t A K c ck w
  · clear hd
    simp only [List.length_cons, List.length_nil, Nat.zero_add] at hk ⊢
    rcases e with rfl | rfl
    · obtain ⟨wa, hwa⟩ : ∃ x, x = w.alloc (.cells #[.int .i64 5, .slice A s.length c, .slice K 1 ck] 31) := ⟨_, rfl⟩
      have hbb : Below w.heap.size w wa := by rw [hwa]; exact below_alloc (Below.refl _ _) _
      have m0 : Blk wa w.heap.size #[.int .i64 5, .slice A s.length c, .slice K 1 ck] 31 := by rw [hwa]; exact blk_new w _ _
      have HS := Lib.hid (hs.below hbb)
      have HK := Lib.hid (hk.below hbb)
      have HB := Lib.hid hbb
      have M0 := Lib.hid m0
      replace hwa := hwa.symm
      have n0 : wa.cell? ⟨w.heap.size, 0, none⟩ = some (.int .i64 5) := by rw [m0.cell]; rfl
      have n1 : wa.cell? ⟨w.heap.size, 1, none⟩ = some (.slice A s.length c) := by rw [m0.cell]; rfl
      have n2 : wa.cell? ⟨w.heap.size, 2, none⟩ = some (.slice K 1 ck) := by rw [m0.cell]; rfl
      clear hbb m0 hs hk
      obtain ⟨a', x1, x2, rfl, hv, c0, c1, c2⟩ := HK.out.one
      have HV := Lib.hid hv
      clear hv
      go_enter Try.func76, Try.ntmps76
      go_wp2_with fail
      clear hwa
      refine (l3Star_of a (ih a (by simp)) (d - 1) t _ _ _ _ ha ht HV.out).mono ?_
      rintro e w1 ⟨rfl, b1⟩
      clear n0 n1 n2 c0 c1 c2
      go_wp2
      go_ret
      exact ⟨ret_bool (lang5 _ _ _).symm, below_then HB.out b1⟩
    · obtain ⟨wa, hwa⟩ : ∃ x, x = w.alloc (.cells #[.int .i64 7, .slice A s.length c, .slice K 1 ck] 31) := ⟨_, rfl⟩
      have hbb : Below w.heap.size w wa := by rw [hwa]; exact below_alloc (Below.refl _ _) _
      have m0 : Blk wa w.heap.size #[.int .i64 7, .slice A s.length c, .slice K 1 ck] 31 := by rw [hwa]; exact blk_new w _ _
      have HS := Lib.hid (hs.below hbb)
      have HK := Lib.hid (hk.below hbb)
      have HB := Lib.hid hbb
      have M0 := Lib.hid m0
      replace hwa := hwa.symm
      have n0 : wa.cell? ⟨w.heap.size, 0, none⟩ = some (.int .i64 7) := by rw [m0.cell]; rfl
      have n1 : wa.cell? ⟨w.heap.size, 1, none⟩ = some (.slice A s.length c) := by rw [m0.cell]; rfl
      have n2 : wa.cell? ⟨w.heap.size, 2, none⟩ = some (.slice K 1 ck) := by rw [m0.cell]; rfl
      clear hbb m0 hs hk
      obtain ⟨a', x1, x2, rfl, hv, c0, c1, c2⟩ := HK.out.one
      have HV := Lib.hid hv
      clear hv
      go_enter Try.func76, Try.ntmps76
      go_wp2_with fail
      clear hwa
      refine (ih a (by simp) (d - 1) t _ _ _ _ ha ht HV.out).mono ?_
      rintro e w1 ⟨rfl, b1⟩
      clear n0 n1 n2 c0 c1 c2
      go_wp2
      go_ret
      exact ⟨ret_bool (lang7 _ _ _).symm, below_then HB.out b1⟩
  · clear hd
    simp only [List.length_cons, List.length_nil, Nat.zero_add, Nat.reduceAdd] at hk ⊢
    rcases e with rfl | rfl | rfl
    · obtain ⟨wa, hwa⟩ : ∃ x, x = w.alloc (.cells #[.int .i64 3, .slice A s.length c, .slice K 2 ck] 31) := ⟨_, rfl⟩
      have hbb : Below w.heap.size w wa := by rw [hwa]; exact below_alloc (Below.refl _ _) _
      have m0 : Blk wa w.heap.size #[.int .i64 3, .slice A s.length c, .slice K 2 ck] 31 := by rw [hwa]; exact blk_new w _ _
      have HS := Lib.hid (hs.below hbb)
      have HK := Lib.hid (hk.below hbb)
      have HB := Lib.hid hbb
      have M0 := Lib.hid m0
      replace hwa := hwa.symm
      have n0 : wa.cell? ⟨w.heap.size, 0, none⟩ = some (.int .i64 3) := by rw [m0.cell]; rfl
      have n1 : wa.cell? ⟨w.heap.size, 1, none⟩ = some (.slice A s.length c) := by rw [m0.cell]; rfl
      have n2 : wa.cell? ⟨w.heap.size, 2, none⟩ = some (.slice K 2 ck) := by rw [m0.cell]; rfl
      clear hbb m0 hs hk
      obtain ⟨a', x1, x2, y1, y2, rfl, hv, c0, c1, c2, hv', d0, d1, d2⟩ := HK.out.two
      have HV := Lib.hid hv
      have HV' := Lib.hid hv'
      clear hv hv'
      have N2 : ∀ x : BW wa, x.w1.cell? ⟨w.heap.size, 2, none⟩ = some (.slice (some a') 2 ck) := fun x => by rw [(M0.out.below x.up).cell]; rfl
      have N0 : ∀ x : BW wa, x.w1.cell? a' = some (.int .i64 a.kind) := fun x => x.cell c0
      have N1 : ∀ x : BW wa, x.w1.cell? ⟨a'.block, a'.off + 1, none⟩ = some x1 := fun x => x.cell c1
      have N3 : ∀ x : BW wa, x.w1.cell? ⟨a'.block, a'.off + 2, none⟩ = some x2 := fun x => x.cell c2
      have N4 : ∀ x : BW wa, x.w1.cell? ⟨a'.block, a'.off + 3, none⟩ = some (.int .i64 b.kind) := fun x => x.cell d0
      have N5 : ∀ x : BW wa, x.w1.cell? ⟨a'.block, a'.off + 3 + 1, none⟩ = some y1 := fun x => x.cell d1
      have N6 : ∀ x : BW wa, x.w1.cell? ⟨a'.block, a'.off + 3 + 2, none⟩ = some y2 := fun x => x.cell d2
      have HL := Lib.hid (lang3 s a b t.data.toList).symm
      obtain ⟨A1, e1, K1, f1, _, rfl, rfl, _⟩ := HV.out.parts
      obtain ⟨A2, e2, K2, f2, _, rfl, rfl, _⟩ := HV'.out.parts
      clear n1 n2 c0 c1 c2 d0 d1 d2
      go_enter Try.func76, Try.ntmps76
      go_wp2
      clear hwa
      refine wp_region_bw (by kernel_rfl) (by kernel_rfl) ?_
      repeat (go_big_quiet_step ((go_at_call 95; exact Calls.bw (bv HL.out) (l3Cat_of a b (ih a (by simp)) (ih b (by simp)) (d - 1) t _ _ _ _ _ _ ha hb ht (HV.out.under (BW.up _)) (HV'.out.under (BW.up _))))))
      refine wpQuiet_nil ?_
      rintro w1 ⟨x1, y1⟩
      have b1 : Below wa.heap.size wa w1 := y1 ▸ x1.up
      clear y1 x1 N0 N1 N2 N3 N4 N5 N6
      go_wp2
      go_ret
      exact ⟨rfl, below_then HB.out b1⟩
    · obtain ⟨wa, hwa⟩ : ∃ x, x = w.alloc (.cells #[.int .i64 4, .slice A s.length c, .slice K 2 ck] 31) := ⟨_, rfl⟩
      have hbb : Below w.heap.size w wa := by rw [hwa]; exact below_alloc (Below.refl _ _) _
      have m0 : Blk wa w.heap.size #[.int .i64 4, .slice A s.length c, .slice K 2 ck] 31 := by rw [hwa]; exact blk_new w _ _
      have HS := Lib.hid (hs.below hbb)
      have HK := Lib.hid (hk.below hbb)
      have HB := Lib.hid hbb
      have M0 := Lib.hid m0
      replace hwa := hwa.symm
      have n0 : wa.cell? ⟨w.heap.size, 0, none⟩ = some (.int .i64 4) := by rw [m0.cell]; rfl
      have n1 : wa.cell? ⟨w.heap.size, 1, none⟩ = some (.slice A s.length c) := by rw [m0.cell]; rfl
      have n2 : wa.cell? ⟨w.heap.size, 2, none⟩ = some (.slice K 2 ck) := by rw [m0.cell]; rfl
      clear hbb m0 hs hk
      obtain ⟨a', x1, x2, y1, y2, rfl, hv, c0, c1, c2, hv', d0, d1, d2⟩ := HK.out.two
      have HV := Lib.hid hv
      have HV' := Lib.hid hv'
      clear hv hv'
      have C3 : ∀ w' : World, Below wa.heap.size wa w' → w'.cell? ⟨a'.block, a'.off + 3, none⟩ = some (.int .i64 b.kind) ∧ w'.cell? ⟨a'.block, a'.off + 3 + 1, none⟩ = some y1 ∧ w'.cell? ⟨a'.block, a'.off + 3 + 2, none⟩ = some y2 := fun w' hb =>
        ⟨(BW.cell ⟨w', hb⟩ d0 :), (BW.cell ⟨w', hb⟩ d1 :), (BW.cell ⟨w', hb⟩ d2 :)⟩
      have HC := Lib.hid C3
      clear C3
      go_enter Try.func76, Try.ntmps76
      go_wp2_with fail
      clear hwa
      refine (ih a (by simp) (d - 1) t _ _ _ _ ha ht HV.out).mono ?_
      rintro e w1 ⟨rfl, b1⟩
      have H1 := Lib.hid b1
      obtain ⟨z0, z1, z2⟩ := HC.out w1 b1
      clear n0 n1 n2 c0 c1 c2 d0 d1 d2
      have n2 : w1.cell? ⟨w.heap.size, 2, none⟩ = some (.slice (some a') 2 ck) := by rw [(M0.out.below b1).cell]; rfl
      clear b1
      by_cases hn : lang a t.data.toList = false
      · have HN := Lib.hid hn
        rw [hn]
        clear hn
        go_wp2_with fail
        refine (ih b (by simp) (d - 1) t _ _ _ _ hb ht (HV'.out.under H1.out)).mono ?_
        rintro e w2 ⟨rfl, b2⟩
        clear n2 z0 z1 z2
        go_wp2
        go_ret
        exact ⟨ret_bool (by rw [lang4, HN.out]; simp), below_then HB.out (below_then H1.out b2)⟩
      · have HN : Hid (lang a t.data.toList = !false) := by show _ = _; simpa using hn
        rw [HN.out]
        clear hn
        go_wp2
        go_ret
        exact ⟨ret_bool (by rw [lang4, HN.out]; simp), below_then HB.out H1.out⟩
    · obtain ⟨wa, hwa⟩ : ∃ x, x = w.alloc (.cells #[.int .i64 6, .slice A s.length c, .slice K 2 ck] 31) := ⟨_, rfl⟩
      have hbb : Below w.heap.size w wa := by rw [hwa]; exact below_alloc (Below.refl _ _) _
      have m0 : Blk wa w.heap.size #[.int .i64 6, .slice A s.length c, .slice K 2 ck] 31 := by rw [hwa]; exact blk_new w _ _
      have HS := Lib.hid (hs.below hbb)
      have HK := Lib.hid (hk.below hbb)
      have HB := Lib.hid hbb
      have M0 := Lib.hid m0
      replace hwa := hwa.symm
      have n0 : wa.cell? ⟨w.heap.size, 0, none⟩ = some (.int .i64 6) := by rw [m0.cell]; rfl
      have n1 : wa.cell? ⟨w.heap.size, 1, none⟩ = some (.slice A s.length c) := by rw [m0.cell]; rfl
      have n2 : wa.cell? ⟨w.heap.size, 2, none⟩ = some (.slice K 2 ck) := by rw [m0.cell]; rfl
      clear hbb m0 hs hk
      obtain ⟨a', x1, x2, y1, y2, rfl, hv, c0, c1, c2, hv', d0, d1, d2⟩ := HK.out.two
      have HV := Lib.hid hv
      have HV' := Lib.hid hv'
      clear hv hv'
      have C3 : ∀ w' : World, Below wa.heap.size wa w' → w'.cell? ⟨a'.block, a'.off + 3, none⟩ = some (.int .i64 b.kind) ∧ w'.cell? ⟨a'.block, a'.off + 3 + 1, none⟩ = some y1 ∧ w'.cell? ⟨a'.block, a'.off + 3 + 2, none⟩ = some y2 := fun w' hb =>
        ⟨(BW.cell ⟨w', hb⟩ d0 :), (BW.cell ⟨w', hb⟩ d1 :), (BW.cell ⟨w', hb⟩ d2 :)⟩
      have HC := Lib.hid C3
      clear C3
      go_enter Try.func76, Try.ntmps76
      go_wp2_with fail
      clear hwa
      refine (ih a (by simp) (d - 1) t _ _ _ _ ha ht HV.out).mono ?_
      rintro e w1 ⟨rfl, b1⟩
      have H1 := Lib.hid b1
      obtain ⟨z0, z1, z2⟩ := HC.out w1 b1
      clear n0 n1 n2 c0 c1 c2 d0 d1 d2
      have n2 : w1.cell? ⟨w.heap.size, 2, none⟩ = some (.slice (some a') 2 ck) := by rw [(M0.out.below b1).cell]; rfl
      clear b1
      by_cases hn : lang a t.data.toList = true
      · have HN := Lib.hid hn
        rw [hn]
        clear hn
        go_wp2_with fail
        refine (ih b (by simp) (d - 1) t _ _ _ _ hb ht (HV'.out.under H1.out)).mono ?_
        rintro e w2 ⟨rfl, b2⟩
        clear n2 z0 z1 z2
        go_wp2
        go_ret
        exact ⟨ret_bool (by rw [lang6, HN.out]; simp), below_then HB.out (below_then H1.out b2)⟩
      · have HN : Hid (lang a t.data.toList = !true) := by show _ = _; simpa using hn
        rw [HN.out]
        clear hn
        go_wp2
        go_ret
        exact ⟨ret_bool (by rw [lang6, HN.out]; simp), below_then HB.out H1.out⟩

end Go.Proofs.Ytiaccimbkghofaa
