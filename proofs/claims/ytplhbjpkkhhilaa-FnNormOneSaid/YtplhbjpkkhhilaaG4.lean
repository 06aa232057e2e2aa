/- Texts joined for the claims: E3 T11 E4 W4 Bits Rd Cs W5. -/
import Derived.Test.YtplhbjpkkhhilaaG3
import Derived.Laws.Strings
import Derived.IntWalk
import Derived.Test.YtplhbjpkkhhilaaG2
import Derived.Test.YtplhbjpkkhhilaaG1
import Derived.Laws.StructEq
import Derived.Laws.Bits64
/- l3Is: whether a text is like a tree, by the reference. -/
namespace Go.Proofs.Ytplhbjpkkhhilaa
set_option linter.unusedSimpArgs false
set_option linter.unusedVariables false
open Go.RowKit

theorem byte0 (t : ByteArray) (h : t.size = 1) : ∃ hx : 0 < t.size, t.data.toList = [t[0]'hx] := by
  refine ⟨by omega, ?_⟩
  obtain ⟨⟨l⟩⟩ := t
  match l, h with
  | [x], _ => rfl
set_option maxRecDepth 100000 in
set_option maxHeartbeats 400000 in
theorem is_set (s : List Sp) (t : ByteArray) (A K : Option Addr) (c ck : Nat) (w : World) (lo : Nat) (hs : Sps w lo A c s) :
    Calls Try.prog 61 #[.agg #[.int .i64 1, .slice A s.length c, .slice K 0 ck], .string t] w fun e w' => e = .returned (.bool (lang (.mk 1 s []) t.data.toList)) ∧ Below w.heap.size w w' := by
  obtain ⟨wa, hwa⟩ : ∃ x, x = w.alloc (.cells #[.int .i64 1, .slice A s.length c, .slice K 0 ck] 34) := ⟨_, rfl⟩
  have hbb : Below w.heap.size w wa := by rw [hwa]; exact below_alloc (Below.refl _ _) _
  have m0 : Blk wa w.heap.size #[.int .i64 1, .slice A s.length c, .slice K 0 ck] 34 := by rw [hwa]; exact blk_new w _ _
  have HS := Lib.hid (hs.below hbb)
  have HB := Lib.hid hbb
  have M0 := Lib.hid m0
  replace hwa := hwa.symm
  have n0 : wa.cell? ⟨w.heap.size, 0, none⟩ = some (.int .i64 1) := by rw [m0.cell]; rfl
  have N1 : ∀ x : BW wa, x.w1.cell? ⟨w.heap.size, 1, none⟩ = some (.slice A s.length c) := fun x => by rw [(M0.out.below x.up).cell]; rfl
  clear hbb m0 hs
  by_cases h1 : t.size = 1
  · obtain ⟨i1, hl⟩ := byte0 t h1
    have d1 : ((t.size : Int) == 1) = true := by simp [h1]
    have i0 : (0 : Int) < (t.size : Int) := by omega
    have HH : Hid (setHas s (wrap64 (t[0].toNat : Int)) = lang (.mk 1 s []) t.data.toList) := by show _ = _; rw [lang1, hl, Go.IntWalk.wrap64_in _ (by have := t[0].toNat_lt; omega)]; rfl
    clear hl h1
    go_enter Try.func61, Try.ntmps61
    go_wp2
    clear hwa
    refine wp_region_bw (by kernel_rfl) (by kernel_rfl) ?_
    repeat (go_big_quiet_step ((go_at_call 81; with_reducible exact Calls.bw_d (bv HH.out) (sSetHas_c _ _ _ _ _ (HS.out.below (BW.up _))))))
    refine wpQuiet_nil ?_
    rintro w1 ⟨x1, y1⟩
    have b1 : Below wa.heap.size wa w1 := y1 ▸ x1.up
    clear y1 x1 N1
    go_wp2
    go_ret
    exact ⟨rfl, below_then HB.out b1⟩
  · have d1 : ((t.size : Int) == 1) = false := by rw [beq_eq_false_iff_ne]; omega
    have d1' : (t.size == 1) = false := by simp [h1]
    have HH : Hid (lang (.mk 1 s []) t.data.toList = false) := by
      show _ = _
      rw [lang1]
      have e1 := tl_len t
      match t.data.toList, e1 with
      | [], _ => rfl
      | [x], e1 => simp at e1; omega
      | x :: y :: l, _ => rfl
    clear h1
    go_enter Try.func61, Try.ntmps61
    go_wp2
    clear hwa
    refine wp_region_bw (by kernel_rfl) (by kernel_rfl) ?_
    repeat (go_big_quiet_step ((fail)))
    refine wpQuiet_nil ?_
    rintro w1 ⟨x1, y1⟩
    have b1 : Below wa.heap.size wa w1 := y1 ▸ x1.up
    clear y1 x1 N1
    go_wp2
    go_ret
    exact ⟨ret_bool HH.out.symm, below_then HB.out b1⟩

set_option maxRecDepth 100000 in
set_option maxHeartbeats 400000 in
theorem is_empty (s : List Sp) (t : ByteArray) (A K : Option Addr) (c ck : Nat) (w : World) :
    Calls Try.prog 61 #[.agg #[.int .i64 2, .slice A s.length c, .slice K 0 ck], .string t] w fun e w' => e = .returned (.bool (lang (.mk 2 s []) t.data.toList)) ∧ Below w.heap.size w w' := by
  have HL : Hid (lang (.mk 2 s []) t.data.toList = t.data.toList.isEmpty) := lang2 _ _ _
  have HB := Lib.hid (below_alloc (Below.refl w.heap.size w) (.cells #[.int .i64 2, .slice A s.length c, .slice K 0 ck] 34))
  go_enter Try.func61, Try.ntmps61
  go_wp2
  go_ret
  exact ⟨ret_bool (by rw [HL.out, Go.ByteArray.toList_eq]), HB.out⟩
set_option maxRecDepth 100000 in
set_option maxHeartbeats 2000000 in
theorem l3Is_c (r : Rex) : LangOk r := by
  refine Rex.ind (p := LangOk) (fun k s ks ih => ?_) r
  intro d t v1 v2 w lo hd ht h
  obtain ⟨A, c, K, ck, _, rfl, rfl, hs, hk⟩ := h.parts
  dsimp only [Rex.kind, Rex.set, Rex.kids] at hs hk ⊢
  clear h
  rcases formed_shape hd with ⟨e, rfl⟩ | ⟨e, a, rfl, ha⟩ | ⟨e, a, b, rfl, ha, hb⟩
  · clear hd
    simp only [List.length_nil] at hk ⊢
    rcases e with rfl | rfl
    · exact is_set s t A K c ck w lo hs
    · exact is_empty s t A K c ck w
  · clear hd
    simp only [List.length_cons, List.length_nil, Nat.zero_add] at hk ⊢
    rcases e with rfl | rfl
    · obtain ⟨wa, hwa⟩ : ∃ x, x = w.alloc (.cells #[.int .i64 5, .slice A s.length c, .slice K 1 ck] 34) := ⟨_, rfl⟩
      have hbb : Below w.heap.size w wa := by rw [hwa]; exact below_alloc (Below.refl _ _) _
      have m0 : Blk wa w.heap.size #[.int .i64 5, .slice A s.length c, .slice K 1 ck] 34 := by rw [hwa]; exact blk_new w _ _
      have HS := Lib.hid (hs.below hbb)
      have HK := Lib.hid (hk.below hbb)
      have HB := Lib.hid hbb
      have M0 := Lib.hid m0
      replace hwa := hwa.symm
      have n0 : wa.cell? ⟨w.heap.size, 0, none⟩ = some (.int .i64 5) := by rw [m0.cell]; rfl
      have n1 : wa.cell? ⟨w.heap.size, 1, none⟩ = some (.slice A s.length c) := by rw [m0.cell]; rfl
      have n2 : wa.cell? ⟨w.heap.size, 2, none⟩ = some (.slice K 1 ck) := by rw [m0.cell]; rfl
      clear hbb m0 hs hk
      obtain ⟨a', x1, x2, rfl, hv, c0, c1, c2⟩ := HK.out.one
      have HV := Lib.hid hv
      clear hv
      go_enter Try.func61, Try.ntmps61
      go_wp2_with fail
      clear hwa
      refine (l3Star_of a (ih a (by simp)) (d - 1) t _ _ _ _ ha ht HV.out).mono ?_
      rintro e w1 ⟨rfl, b1⟩
      clear n0 n1 n2 c0 c1 c2
      go_wp2
      go_ret
      exact ⟨ret_bool (lang5 _ _ _).symm, below_then HB.out b1⟩
    · obtain ⟨wa, hwa⟩ : ∃ x, x = w.alloc (.cells #[.int .i64 7, .slice A s.length c, .slice K 1 ck] 34) := ⟨_, rfl⟩
      have hbb : Below w.heap.size w wa := by rw [hwa]; exact below_alloc (Below.refl _ _) _
      have m0 : Blk wa w.heap.size #[.int .i64 7, .slice A s.length c, .slice K 1 ck] 34 := by rw [hwa]; exact blk_new w _ _
      have HS := Lib.hid (hs.below hbb)
      have HK := Lib.hid (hk.below hbb)
      have HB := Lib.hid hbb
      have M0 := Lib.hid m0
      replace hwa := hwa.symm
      have n0 : wa.cell? ⟨w.heap.size, 0, none⟩ = some (.int .i64 7) := by rw [m0.cell]; rfl
      have n1 : wa.cell? ⟨w.heap.size, 1, none⟩ = some (.slice A s.length c) := by rw [m0.cell]; rfl
      have n2 : wa.cell? ⟨w.heap.size, 2, none⟩ = some (.slice K 1 ck) := by rw [m0.cell]; rfl
      clear hbb m0 hs hk
      obtain ⟨a', x1, x2, rfl, hv, c0, c1, c2⟩ := HK.out.one
      have HV := Lib.hid hv
      clear hv
      go_enter Try.func61, Try.ntmps61
      go_wp2_with fail
      clear hwa
      refine (ih a (by simp) (d - 1) t _ _ _ _ ha ht HV.out).mono ?_
      rintro e w1 ⟨rfl, b1⟩
      clear n0 n1 n2 c0 c1 c2
      go_wp2
      go_ret
      exact ⟨ret_bool (lang7 _ _ _).symm, below_then HB.out b1⟩
  · clear hd
    simp only [List.length_cons, List.length_nil, Nat.zero_add, Nat.reduceAdd] at hk ⊢
    rcases e with rfl | rfl | rfl
    · obtain ⟨wa, hwa⟩ : ∃ x, x = w.alloc (.cells #[.int .i64 3, .slice A s.length c, .slice K 2 ck] 34) := ⟨_, rfl⟩
      have hbb : Below w.heap.size w wa := by rw [hwa]; exact below_alloc (Below.refl _ _) _
      have m0 : Blk wa w.heap.size #[.int .i64 3, .slice A s.length c, .slice K 2 ck] 34 := by rw [hwa]; exact blk_new w _ _
      have HS := Lib.hid (hs.below hbb)
      have HK := Lib.hid (hk.below hbb)
      have HB := Lib.hid hbb
      have M0 := Lib.hid m0
      replace hwa := hwa.symm
      have n0 : wa.cell? ⟨w.heap.size, 0, none⟩ = some (.int .i64 3) := by rw [m0.cell]; rfl
      have n1 : wa.cell? ⟨w.heap.size, 1, none⟩ = some (.slice A s.length c) := by rw [m0.cell]; rfl
      have n2 : wa.cell? ⟨w.heap.size, 2, none⟩ = some (.slice K 2 ck) := by rw [m0.cell]; rfl
      clear hbb m0 hs hk
      obtain ⟨a', x1, x2, y1, y2, rfl, hv, c0, c1, c2, hv', d0, d1, d2⟩ := HK.out.two
      have HV := Lib.hid hv
      have HV' := Lib.hid hv'
      clear hv hv'
      have N2 : ∀ x : BW wa, x.w1.cell? ⟨w.heap.size, 2, none⟩ = some (.slice (some a') 2 ck) := fun x => by rw [(M0.out.below x.up).cell]; rfl
      have N0 : ∀ x : BW wa, x.w1.cell? a' = some (.int .i64 a.kind) := fun x => x.cell c0
      have N1 : ∀ x : BW wa, x.w1.cell? ⟨a'.block, a'.off + 1, none⟩ = some x1 := fun x => x.cell c1
      have N3 : ∀ x : BW wa, x.w1.cell? ⟨a'.block, a'.off + 2, none⟩ = some x2 := fun x => x.cell c2
      have N4 : ∀ x : BW wa, x.w1.cell? ⟨a'.block, a'.off + 3, none⟩ = some (.int .i64 b.kind) := fun x => x.cell d0
      have N5 : ∀ x : BW wa, x.w1.cell? ⟨a'.block, a'.off + 3 + 1, none⟩ = some y1 := fun x => x.cell d1
      have N6 : ∀ x : BW wa, x.w1.cell? ⟨a'.block, a'.off + 3 + 2, none⟩ = some y2 := fun x => x.cell d2
      have HL := Lib.hid (lang3 s a b t.data.toList).symm
      obtain ⟨A1, e1, K1, f1, _, rfl, rfl, _⟩ := HV.out.parts
      obtain ⟨A2, e2, K2, f2, _, rfl, rfl, _⟩ := HV'.out.parts
      clear n1 n2 c0 c1 c2 d0 d1 d2
      go_enter Try.func61, Try.ntmps61
      go_wp2
      clear hwa
      refine wp_region_bw (by kernel_rfl) (by kernel_rfl) ?_
      repeat (go_big_quiet_step ((go_at_call 82; exact Calls.bw (bv HL.out) (l3Cat_of a b (ih a (by simp)) (ih b (by simp)) (d - 1) t _ _ _ _ _ _ ha hb ht (HV.out.under (BW.up _)) (HV'.out.under (BW.up _))))))
      refine wpQuiet_nil ?_
      rintro w1 ⟨x1, y1⟩
      have b1 : Below wa.heap.size wa w1 := y1 ▸ x1.up
      clear y1 x1 N0 N1 N2 N3 N4 N5 N6
      go_wp2
      go_ret
      exact ⟨rfl, below_then HB.out b1⟩
    · obtain ⟨wa, hwa⟩ : ∃ x, x = w.alloc (.cells #[.int .i64 4, .slice A s.length c, .slice K 2 ck] 34) := ⟨_, rfl⟩
      have hbb : Below w.heap.size w wa := by rw [hwa]; exact below_alloc (Below.refl _ _) _
      have m0 : Blk wa w.heap.size #[.int .i64 4, .slice A s.length c, .slice K 2 ck] 34 := by rw [hwa]; exact blk_new w _ _
      have HS := Lib.hid (hs.below hbb)
      have HK := Lib.hid (hk.below hbb)
      have HB := Lib.hid hbb
      have M0 := Lib.hid m0
      replace hwa := hwa.symm
      have n0 : wa.cell? ⟨w.heap.size, 0, none⟩ = some (.int .i64 4) := by rw [m0.cell]; rfl
      have n1 : wa.cell? ⟨w.heap.size, 1, none⟩ = some (.slice A s.length c) := by rw [m0.cell]; rfl
      have n2 : wa.cell? ⟨w.heap.size, 2, none⟩ = some (.slice K 2 ck) := by rw [m0.cell]; rfl
      clear hbb m0 hs hk
      obtain ⟨a', x1, x2, y1, y2, rfl, hv, c0, c1, c2, hv', d0, d1, d2⟩ := HK.out.two
      have HV := Lib.hid hv
      have HV' := Lib.hid hv'
      clear hv hv'
      have C3 : ∀ w' : World, Below wa.heap.size wa w' → w'.cell? ⟨a'.block, a'.off + 3, none⟩ = some (.int .i64 b.kind) ∧ w'.cell? ⟨a'.block, a'.off + 3 + 1, none⟩ = some y1 ∧ w'.cell? ⟨a'.block, a'.off + 3 + 2, none⟩ = some y2 := fun w' hb =>
        ⟨(BW.cell ⟨w', hb⟩ d0 :), (BW.cell ⟨w', hb⟩ d1 :), (BW.cell ⟨w', hb⟩ d2 :)⟩
      have HC := Lib.hid C3
      clear C3
      go_enter Try.func61, Try.ntmps61
      go_wp2_with fail
      clear hwa
      refine (ih a (by simp) (d - 1) t _ _ _ _ ha ht HV.out).mono ?_
      rintro e w1 ⟨rfl, b1⟩
      have H1 := Lib.hid b1
      obtain ⟨z0, z1, z2⟩ := HC.out w1 b1
      clear n0 n1 n2 c0 c1 c2 d0 d1 d2
      have n2 : w1.cell? ⟨w.heap.size, 2, none⟩ = some (.slice (some a') 2 ck) := by rw [(M0.out.below b1).cell]; rfl
      clear b1
      by_cases hn : lang a t.data.toList = false
      · have HN := Lib.hid hn
        rw [hn]
        clear hn
        go_wp2_with fail
        refine (ih b (by simp) (d - 1) t _ _ _ _ hb ht (HV'.out.under H1.out)).mono ?_
        rintro e w2 ⟨rfl, b2⟩
        clear n2 z0 z1 z2
        go_wp2
        go_ret
        exact ⟨ret_bool (by rw [lang4, HN.out]; simp), below_then HB.out (below_then H1.out b2)⟩
      · have HN : Hid (lang a t.data.toList = !false) := by show _ = _; simpa using hn
        rw [HN.out]
        clear hn
        go_wp2
        go_ret
        exact ⟨ret_bool (by rw [lang4, HN.out]; simp), below_then HB.out H1.out⟩
    · obtain ⟨wa, hwa⟩ : ∃ x, x = w.alloc (.cells #[.int .i64 6, .slice A s.length c, .slice K 2 ck] 34) := ⟨_, rfl⟩
      have hbb : Below w.heap.size w wa := by rw [hwa]; exact below_alloc (Below.refl _ _) _
      have m0 : Blk wa w.heap.size #[.int .i64 6, .slice A s.length c, .slice K 2 ck] 34 := by rw [hwa]; exact blk_new w _ _
      have HS := Lib.hid (hs.below hbb)
      have HK := Lib.hid (hk.below hbb)
      have HB := Lib.hid hbb
      have M0 := Lib.hid m0
      replace hwa := hwa.symm
      have n0 : wa.cell? ⟨w.heap.size, 0, none⟩ = some (.int .i64 6) := by rw [m0.cell]; rfl
      have n1 : wa.cell? ⟨w.heap.size, 1, none⟩ = some (.slice A s.length c) := by rw [m0.cell]; rfl
      have n2 : wa.cell? ⟨w.heap.size, 2, none⟩ = some (.slice K 2 ck) := by rw [m0.cell]; rfl
      clear hbb m0 hs hk
      obtain ⟨a', x1, x2, y1, y2, rfl, hv, c0, c1, c2, hv', d0, d1, d2⟩ := HK.out.two
      have HV := Lib.hid hv
      have HV' := Lib.hid hv'
      clear hv hv'
      have C3 : ∀ w' : World, Below wa.heap.size wa w' → w'.cell? ⟨a'.block, a'.off + 3, none⟩ = some (.int .i64 b.kind) ∧ w'.cell? ⟨a'.block, a'.off + 3 + 1, none⟩ = some y1 ∧ w'.cell? ⟨a'.block, a'.off + 3 + 2, none⟩ = some y2 := fun w' hb =>
        ⟨(BW.cell ⟨w', hb⟩ d0 :), (BW.cell ⟨w', hb⟩ d1 :), (BW.cell ⟨w', hb⟩ d2 :)⟩
      have HC := Lib.hid C3
      clear C3
      go_enter Try.func61, Try.ntmps61
      go_wp2_with fail
      clear hwa
      refine (ih a (by simp) (d - 1) t _ _ _ _ ha ht HV.out).mono ?_
      rintro e w1 ⟨rfl, b1⟩
      have H1 := Lib.hid b1
      obtain ⟨z0, z1, z2⟩ := HC.out w1 b1
      clear n0 n1 n2 c0 c1 c2 d0 d1 d2
      have n2 : w1.cell? ⟨w.heap.size, 2, none⟩ = some (.slice (some a') 2 ck) := by rw [(M0.out.below b1).cell]; rfl
      clear b1
      by_cases hn : lang a t.data.toList = true
      · have HN := Lib.hid hn
        rw [hn]
        clear hn
        go_wp2_with fail
        refine (ih b (by simp) (d - 1) t _ _ _ _ hb ht (HV'.out.under H1.out)).mono ?_
        rintro e w2 ⟨rfl, b2⟩
        clear n2 z0 z1 z2
        go_wp2
        go_ret
        exact ⟨ret_bool (by rw [lang6, HN.out]; simp), below_then HB.out (below_then H1.out b2)⟩
      · have HN : Hid (lang a t.data.toList = !true) := by show _ = _; simpa using hn
        rw [HN.out]
        clear hn
        go_wp2
        go_ret
        exact ⟨ret_bool (by rw [lang6, HN.out]; simp), below_then HB.out H1.out⟩

end Go.Proofs.Ytplhbjpkkhhilaa

/- RexNull, of the program and of the reference. -/
namespace Go.Proofs.Ytplhbjpkkhhilaa
set_option linter.unusedSimpArgs false
set_option linter.unusedVariables false
open Go.RowKit

def rexNull (r : Rex) : Bool := rexOk r && null r
set_option maxHeartbeats 1000000 in
theorem iRexNull_c (r : Rex) (v1 v2 : Value) (w : World) (lo : Nat) (h : RexV w lo r (.int .i64 r.kind) v1 v2) (hsz : r.size ≤ 1048576) :
    Calls Try.prog 30 #[.agg #[.int .i64 r.kind, v1, v2]] w fun e w' => e = .returned (.bool (rexNull r)) ∧ Below w.heap.size w w' := by
  obtain ⟨A, c, K, ck, _, rfl, rfl, hs, hk⟩ := h.parts
  obtain ⟨wa, hwa⟩ : ∃ x, x = w.alloc (.cells #[.int .i64 r.kind, .slice A r.set.length c, .slice K r.kids.length ck] 34) := ⟨_, rfl⟩
  have hb : Below w.heap.size w wa := by rw [hwa]; exact below_alloc (Below.refl _ _) _
  have m0 : Blk wa w.heap.size #[.int .i64 r.kind, .slice A r.set.length c, .slice K r.kids.length ck] 34 := by rw [hwa]; exact blk_new w _ _
  have HV := Lib.hid (h.under hb)
  have HB := Lib.hid hb
  have M0 := Lib.hid m0
  clear hb m0 hs hk h
  replace hwa := hwa.symm
  have n0 : wa.cell? ⟨w.heap.size, 0, none⟩ = some (.int .i64 r.kind) := by rw [M0.out.cell]; rfl
  have n0' : wa.cell? ⟨w.heap.size, 1, none⟩ = some (.slice A r.set.length c) := by rw [M0.out.cell]; rfl
  have n0'' : wa.cell? ⟨w.heap.size, 2, none⟩ = some (.slice K r.kids.length ck) := by rw [M0.out.cell]; rfl
  go_enter Try.func30, Try.ntmps30
  go_wp2_with fail
  clear hwa
  refine (iRexOk_c _ _ _ _ _ HV.out hsz).mono ?_
  rintro e w1 ⟨rfl, b1⟩
  have H1 := Lib.hid b1
  replace M0 := Lib.hid (M0.out.below b1)
  clear n0 n0' n0'' b1
  have n0 : w1.cell? ⟨w.heap.size, 0, none⟩ = some (.int .i64 r.kind) := by rw [M0.out.cell]; rfl
  have n0' : w1.cell? ⟨w.heap.size, 1, none⟩ = some (.slice A r.set.length c) := by rw [M0.out.cell]; rfl
  have n0'' : w1.cell? ⟨w.heap.size, 2, none⟩ = some (.slice K r.kids.length ck) := by rw [M0.out.cell]; rfl
  by_cases hf : rexOk r = true
  · have HF := Lib.hid hf
    rw [hf]
    clear hf
    go_wp2_with fail
    refine (iNull_c r 8 _ _ _ _ (rexOk_formed HF.out) (HV.out.under H1.out)).mono ?_
    rintro e w2 ⟨rfl, b2⟩
    clear n0 n0' n0''
    go_wp2
    go_ret
    exact ⟨ret_bool (by rw [rexNull, HF.out]; rfl), below_then HB.out (below_then H1.out b2)⟩
  · have HF : Hid (rexOk r = false) := by show _ = _; simpa using hf
    rw [HF.out]
    clear hf
    go_wp2
    go_ret
    exact ⟨ret_bool (by rw [rexNull, HF.out]; rfl), below_then HB.out H1.out⟩
end Go.Proofs.Ytplhbjpkkhhilaa

/- MatchWord, MatchIs, MatchLong of the reference. -/
namespace Go.Proofs.Ytplhbjpkkhhilaa
set_option linter.unusedSimpArgs false
set_option linter.unusedVariables false
open Go.RowKit

theorem sWord_c (s : ByteArray) (w : World) :
    Calls Try.prog 27 #[.string s] w fun e w' => e = .returned (.bool (decide ((s.size : Int) ≤ 12))) ∧ w = w' := by
  go_enter Try.func27, Try.ntmps27
  go_wp2
  go_ret
  exact ⟨rfl, rfl⟩
def matchIs (r : Rex) (t : Txt) : Bool := rexOk r && (decide (t.length ≤ 12) && lang r t)
theorem matchIs_of {r : Rex} {t : Txt} (h : rexOk r = true) (ht : t.length ≤ 12) : matchIs r t = lang r t := by rw [matchIs, h, decide_eq_true ht]; rfl
theorem matchIs_no1 {r : Rex} {t : Txt} (h : rexOk r = false) : matchIs r t = false := by rw [matchIs, h]; rfl
theorem matchIs_no2 {r : Rex} {t : Txt} (ht : ¬ t.length ≤ 12) : matchIs r t = false := by rw [matchIs, decide_eq_false ht]; simp
/-- the longest of n bytes at most -/
def longGo (p : Nat → Bool) : Nat → Int
  | 0 => if p 0 = true then 0 else -1
  | n + 1 => if p (n + 1) = true then ((n + 1 : Nat) : Int) else longGo p n
def matchLong (r : Rex) (t : Txt) (at_ : Int) : Int :=
  if rexOk r = true ∧ t.length ≤ 12 ∧ 0 ≤ at_ ∧ at_ ≤ t.length then longGo (fun m => lang r ((t.drop at_.toNat).take m)) (t.length - at_.toNat) else -1

set_option maxHeartbeats 1000000 in
theorem sMatchIs_c (r : Rex) (t : ByteArray) (v1 v2 : Value) (w : World) (lo : Nat) (h : RexV w lo r (.int .i64 r.kind) v1 v2) (hsz : r.size ≤ 1048576) :
    Calls Try.prog 29 #[.agg #[.int .i64 r.kind, v1, v2], .string t] w fun e w' => e = .returned (.bool (matchIs r t.data.toList)) ∧ Below w.heap.size w w' := by
  obtain ⟨A, c, K, ck, _, rfl, rfl, _, _⟩ := h.parts
  obtain ⟨wa, hwa⟩ : ∃ x, x = w.alloc (.cells #[.int .i64 r.kind, .slice A r.set.length c, .slice K r.kids.length ck] 34) := ⟨_, rfl⟩
  have hb : Below w.heap.size w wa := by rw [hwa]; exact below_alloc (Below.refl _ _) _
  have m0 : Blk wa w.heap.size #[.int .i64 r.kind, .slice A r.set.length c, .slice K r.kids.length ck] 34 := by rw [hwa]; exact blk_new w _ _
  have HV := Lib.hid (h.under hb)
  have HB := Lib.hid hb
  have M0 := Lib.hid m0
  clear hb m0 h
  replace hwa := hwa.symm
  have n0 : wa.cell? ⟨w.heap.size, 0, none⟩ = some (.int .i64 r.kind) := by rw [M0.out.cell]; rfl
  have n0' : wa.cell? ⟨w.heap.size, 1, none⟩ = some (.slice A r.set.length c) := by rw [M0.out.cell]; rfl
  have n0'' : wa.cell? ⟨w.heap.size, 2, none⟩ = some (.slice K r.kids.length ck) := by rw [M0.out.cell]; rfl
  have HT := Lib.hid (tl_len t)
  go_enter Try.func29, Try.ntmps29
  go_wp2_with fail
  clear hwa
  refine (sRexOk_c _ _ _ _ _ HV.out hsz).mono ?_
  rintro e w1 ⟨rfl, b1⟩
  have H1 := Lib.hid b1
  replace M0 := Lib.hid (M0.out.below b1)
  clear n0 n0' n0'' b1
  have n0 : w1.cell? ⟨w.heap.size, 0, none⟩ = some (.int .i64 r.kind) := by rw [M0.out.cell]; rfl
  have n0' : w1.cell? ⟨w.heap.size, 1, none⟩ = some (.slice A r.set.length c) := by rw [M0.out.cell]; rfl
  have n0'' : w1.cell? ⟨w.heap.size, 2, none⟩ = some (.slice K r.kids.length ck) := by rw [M0.out.cell]; rfl
  by_cases hf : rexOk r = true
  · have HF := Lib.hid hf
    rw [hf]
    clear hf
    go_wp2_with fail
    refine (sWord_c _ _).mono ?_
    rintro e w1 ⟨rfl, rfl⟩
    by_cases ht : t.size ≤ 12
    · have HX := Lib.hid ht
      rw [decide_eq_true (show (t.size : Int) ≤ 12 by omega)]
      clear ht
      go_wp2_with fail
      refine (l3Is_c r 8 t _ _ _ _ (rexOk_formed HF.out) (by have := HX.out; omega) (HV.out.under H1.out)).mono ?_
      rintro e w2 ⟨rfl, b2⟩
      clear n0 n0' n0''
      go_wp2
      go_ret
      exact ⟨ret_bool (matchIs_of HF.out (by rw [HT.out]; exact HX.out)).symm, below_then HB.out (below_then H1.out b2)⟩
    · have HX := Lib.hid ht
      rw [decide_eq_false (show ¬ (t.size : Int) ≤ 12 by omega)]
      clear ht
      go_wp2
      go_ret
      exact ⟨ret_bool (matchIs_no2 (by rw [HT.out]; exact HX.out)).symm, below_then HB.out H1.out⟩
  · have HF : Hid (rexOk r = false) := by show _ = _; simpa using hf
    rw [HF.out]
    clear hf
    go_wp2
    go_ret
    exact ⟨ret_bool (matchIs_no1 HF.out).symm, below_then HB.out H1.out⟩

theorem matchLong_no {r : Rex} {t : Txt} {n : Int} (h : ¬ (rexOk r = true ∧ t.length ≤ 12 ∧ 0 ≤ n ∧ n ≤ t.length)) : matchLong r t n = -1 := by rw [matchLong, if_neg h]
theorem longGo_no {p : Nat → Bool} {n : Nat} (h : p n = false) : longGo p n = if n = 0 then -1 else longGo p (n - 1) := by
  cases n with
  | zero => rw [longGo, h]; rfl
  | succ n => rw [longGo, h]; simp
theorem longGo_yes {p : Nat → Bool} {n : Nat} (h : p n = true) : longGo p n = n := by
  cases n with
  | zero => rw [longGo, if_pos h]; rfl
  | succ n => rw [longGo, if_pos h]
set_option maxRecDepth 100000 in
set_option maxHeartbeats 1000000 in
theorem sMatchLong_c (r : Rex) (t : ByteArray) (n : Int) (v1 v2 : Value) (w : World) (lo : Nat) (h : RexV w lo r (.int .i64 r.kind) v1 v2) (hsz : r.size ≤ 1048576) :
    Calls Try.prog 33 #[.agg #[.int .i64 r.kind, v1, v2], .string t, .int .i64 n] w fun e w' => e = .returned (.int .i64 (matchLong r t.data.toList n)) ∧ Below w.heap.size w w' := by
  obtain ⟨A, c, K, ck, _, rfl, rfl, _, _⟩ := h.parts
  obtain ⟨wa, hwa⟩ : ∃ x, x = w.alloc (.cells #[.int .i64 r.kind, .slice A r.set.length c, .slice K r.kids.length ck] 34) := ⟨_, rfl⟩
  have hb : Below w.heap.size w wa := by rw [hwa]; exact below_alloc (Below.refl _ _) _
  have m0 : Blk wa w.heap.size #[.int .i64 r.kind, .slice A r.set.length c, .slice K r.kids.length ck] 34 := by rw [hwa]; exact blk_new w _ _
  have HV := Lib.hid (h.under hb)
  have HB := Lib.hid hb
  have M0 := Lib.hid m0
  clear hb m0 h
  replace hwa := hwa.symm
  have n0 : wa.cell? ⟨w.heap.size, 0, none⟩ = some (.int .i64 r.kind) := by rw [M0.out.cell]; rfl
  have n0' : wa.cell? ⟨w.heap.size, 1, none⟩ = some (.slice A r.set.length c) := by rw [M0.out.cell]; rfl
  have n0'' : wa.cell? ⟨w.heap.size, 2, none⟩ = some (.slice K r.kids.length ck) := by rw [M0.out.cell]; rfl
  have HT := Lib.hid (tl_len t)
  go_enter Try.func33, Try.ntmps33
  go_wp2_with fail
  clear hwa
  refine (sRexOk_c _ _ _ _ _ HV.out hsz).mono ?_
  rintro e w1 ⟨rfl, b1⟩
  have H1 := Lib.hid b1
  replace M0 := Lib.hid (M0.out.below b1)
  clear n0 n0' n0'' b1
  have n0 : w1.cell? ⟨w.heap.size, 0, none⟩ = some (.int .i64 r.kind) := by rw [M0.out.cell]; rfl
  have n0' : w1.cell? ⟨w.heap.size, 1, none⟩ = some (.slice A r.set.length c) := by rw [M0.out.cell]; rfl
  have n0'' : w1.cell? ⟨w.heap.size, 2, none⟩ = some (.slice K r.kids.length ck) := by rw [M0.out.cell]; rfl
  by_cases hf : rexOk r = true
  · have HF := Lib.hid hf
    rw [hf]
    clear hf
    go_wp2_with fail
    refine (sWord_c _ _).mono ?_
    rintro e w1 ⟨rfl, rfl⟩
    by_cases ht : t.size ≤ 12
    · have HX := Lib.hid ht
      rw [decide_eq_true (show (t.size : Int) ≤ 12 by omega)]
      by_cases hn : 0 ≤ n ∧ n ≤ t.size
      · obtain ⟨hn0, hn1⟩ := hn
        obtain ⟨q, rfl⟩ := Int.eq_ofNat_of_zero_le hn0
        have hq : q ≤ t.size := by omega
        have EM : Hid (matchLong r t.data.toList q = longGo (fun m => lang r ((t.data.toList.drop q).take m)) (t.size - q)) := by
          show _ = _
          rw [matchLong, if_pos ⟨HF.out, by rw [HT.out]; exact HX.out, hn0, by rw [HT.out]; exact hn1⟩, HT.out]
          rfl
        clear hn0 hn1
        go_wp2
        go_loopg [7] (t.size - q + 1) (fun m x wr => ∃ k : Int, x = .int .i64 k ∧ Hid (k = (q : Int) + m - 1) ∧ Hid (q + m ≤ t.size + 1) ∧ Hid ((if m = 0 then -1 else longGo (fun m => lang r ((t.data.toList.drop q).take m)) (m - 1)) = matchLong r t.data.toList q) ∧ Hid (Below w1.heap.size w1 wr))
        case atStart =>
          refine ⟨t.size, rfl, ?_, ?_, ?_, Below.refl _ _⟩
          · show _ = _; omega
          · show _ ≤ _; omega
          · show _ = _
            rw [EM.out, if_neg (by omega), Nat.add_sub_cancel]
        case round =>
          obtain ⟨k, rfl, hk, hm, HL, HW⟩ := hrel
          by_cases h0 : gk = 0
          · subst h0
            have hlt : ¬ ((q : Int) ≤ k) := by have := hk.out; omega
            go_wp2
            go_ret
            exact ⟨ret_int (by rw [← HL.out]; rfl), below_then HB.out (below_then H1.out HW.out)⟩
          · obtain ⟨m, rfl⟩ : ∃ m, gk = m + 1 := ⟨gk - 1, by omega⟩
            obtain rfl : k = ((q + m : Nat) : Int) := by have := hk.out; omega
            have hmm : q + m ≤ t.size := by have := hm.out; omega
            have N0 : ∀ x : BW wr, x.w1.cell? ⟨w.heap.size, 0, none⟩ = some (.int .i64 r.kind) := fun x => by rw [(M0.out.below (below_then HW.out x.up)).cell]; rfl
            have N1 : ∀ x : BW wr, x.w1.cell? ⟨w.heap.size, 1, none⟩ = some (.slice A r.set.length c) := fun x => by rw [(M0.out.below (below_then HW.out x.up)).cell]; rfl
            have N2 : ∀ x : BW wr, x.w1.cell? ⟨w.heap.size, 2, none⟩ = some (.slice K r.kids.length ck) := fun x => by rw [(M0.out.below (below_then HW.out x.up)).cell]; rfl
            have EX : Hid ((t.extract q (q + m)).data.toList = (t.data.toList.drop q).take m) := by show _ = _; rw [Go.Lib.extract_data, Nat.add_sub_cancel_left]
            have ES := ext_size t q (q + m)
            have hts : t.size ≤ 1000 := by omega
            by_cases hg : lang r ((t.data.toList.drop q).take m) = true
            · have HG : Hid (lang r (t.extract q (q + m)).data.toList = true) := by show _ = _; rw [EX.out]; exact hg
              have EL : Hid (matchLong r t.data.toList q = m) := by show _ = _; rw [← HL.out, if_neg (by omega), Nat.add_sub_cancel]; exact longGo_yes hg
              clear hg
              go_wp2
              refine wp_region_bw (by kernel_rfl) (by kernel_rfl) ?_
              repeat (go_big_quiet_step ((go_at_call 61; with_reducible exact (l3Is_c r).bw (d := 8) (rexOk_formed HF.out) (by omega) (HV.out.under (below_then H1.out (below_then HW.out (BW.up _)))) HG.out)))
              refine wpQuiet_nil ?_
              rintro w2 ⟨x1, y1⟩
              have b2 : Below wr.heap.size wr w2 := y1 ▸ x1.up
              clear y1 x1 N0 N1 N2 ES
              go_wp2
              go_ret
              exact ⟨ret_int (by rw [EL.out]; omega), below_then HB.out (below_then H1.out (below_then HW.out b2))⟩
            · have HG : Hid (lang r (t.extract q (q + m)).data.toList = false) := by show _ = _; rw [EX.out]; simpa using hg
              have EL := Lib.hid (longGo_no (p := fun m => lang r ((t.data.toList.drop q).take m)) (n := m) (by simpa using hg))
              clear hg
              go_wp2
              refine wp_region_bw (by kernel_rfl) (by kernel_rfl) ?_
              repeat (go_big_quiet_step ((go_at_call 61; with_reducible exact (l3Is_c r).bw (d := 8) (rexOk_formed HF.out) (by omega) (HV.out.under (below_then H1.out (below_then HW.out (BW.up _)))) HG.out)))
              refine wpQuiet_nil ?_
              rintro w2 ⟨x1, y1⟩
              have b2 : Below wr.heap.size wr w2 := y1 ▸ x1.up
              clear y1 x1 N0 N1 N2 ES
              go_wp2
              go_roundg m
              case rel =>
                refine ⟨(q : Int) + m - 1, by go_num, ?_, ?_, ?_, below_then HW.out b2⟩
                · show _ = _; omega
                · show _ ≤ _; omega
                · show _ = _
                  rw [← EL.out]
                  have := HL.out
                  rw [if_neg (by omega), Nat.add_sub_cancel] at this
                  exact this
              case measure => omega
      · by_cases hn0 : n < 0
        · have d0 : decide (n < 0) = true := decide_eq_true hn0
          go_wp2
          go_ret
          exact ⟨ret_int (matchLong_no (fun h => by have := h.2.2.1; omega)).symm, below_then HB.out H1.out⟩
        · have d0 : decide (n < 0) = false := decide_eq_false hn0
          have d1 : decide ((t.size : Int) < n) = true := decide_eq_true (by omega)
          have HN : Hid ((t.size : Int) < n) := by show _ < _; omega
          clear hn hn0
          go_wp2
          go_ret
          exact ⟨ret_int (matchLong_no (fun h => by have h2 := h.2.2.2; rw [HT.out] at h2; have := HN.out; omega)).symm, below_then HB.out H1.out⟩
    · have HX := Lib.hid ht
      rw [decide_eq_false (show ¬ (t.size : Int) ≤ 12 by omega)]
      clear ht
      go_wp2
      go_ret
      exact ⟨ret_int (matchLong_no (fun h => HX.out (by rw [← HT.out]; exact h.2.1))).symm, below_then HB.out H1.out⟩
  · have HF : Hid (rexOk r = false) := by show _ = _; simpa using hf
    rw [HF.out]
    clear hf
    go_wp2
    go_ret
    exact ⟨ret_int (matchLong_no (fun h => by rw [HF.out] at h; exact absurd h.1 (by simp))).symm, below_then HB.out H1.out⟩

end Go.Proofs.Ytplhbjpkkhhilaa

/- same, the two SetSame, the two MatchWord. -/
namespace Go.Proofs.Ytplhbjpkkhhilaa
set_option linter.unusedSimpArgs false
set_option linter.unusedVariables false
open Go.RowKit

theorem uSp : Try.prog.underlying TSp = some (.struct (Try.prog.fieldsOf TSp)) := by kernel_rfl
theorem sSp : Try.prog.stoodInHeld TSp = false := by kernel_rfl
theorem gSp : Try.prog.eqGuardType Try.prog.depth TSp = false := by kernel_rfl
theorem fSp : (Try.prog.fieldsOf TSp).toList.map (fun f => (f.name == "_", f.type, f.offset)) = [(false, 3, 0), (false, 3, 1)] := by kernel_rfl
theorem neqSp (x y : Sp) (w : World) : (binOp .neq TSp (.agg #[.int .i64 x.lo, .int .i64 x.hi]) (.agg #[.int .i64 y.lo, .int .i64 y.hi])).run Try.prog w = .ok (.bool (!decide (x = y))) w := by
  rw [run_neq_struct, run_equalIn_struct (P := Try.prog) w 9999 TSp _ _ uSp sSp]
  have hf := fSp
  generalize (Try.prog.fieldsOf TSp).toList = l at hf
  obtain ⟨f0, f1, rfl⟩ : ∃ f0 f1, l = [f0, f1] := by
    have := congrArg List.length hf
    rw [List.length_map] at this
    rcases l with _ | ⟨f0, _ | ⟨f1, _ | ⟨f2, l⟩⟩⟩ <;> simp at this
    exact ⟨f0, f1, rfl⟩
  · simp only [List.map_cons, List.map_nil, List.cons.injEq, Prod.mk.injEq, and_true] at hf
    obtain ⟨⟨n0, t0, o0⟩, n1, t1, o1⟩ := hf
    have n0' : ¬ f0.name = "_" := by simpa using n0
    have n1' : ¬ f1.name = "_" := by simpa using n1
    have p0 : ∀ a b : Int, (part 3 #[.int .i64 a, .int .i64 b] 0).run Try.prog w = .ok (.int .i64 a) w := by
      intro a b
      kernel_rfl
    have p1 : ∀ a b : Int, (part 3 #[.int .i64 a, .int .i64 b] 1).run Try.prog w = .ok (.int .i64 b) w := by
      intro a b
      kernel_rfl
    have q : ∀ a b : Int, (Op.equalIn 9999 3 (.int .i64 a) (.int .i64 b)).run Try.prog w = .ok (a == b) w := fun a b => run_equalIn_int w 9998 _ _ .i64 a b Try.underlying3
    simp only [Op.eqFields, ne_eq, n0', n1', not_false_eq_true, if_true, Sem.run_bind, t0, t1, o0, o1, p0, p1, q, Result.andThen_ok]
    by_cases c0 : x.lo = y.lo
    · by_cases c1 : x.hi = y.hi
      · have e : x = y := by cases x; cases y; simp at c0 c1; rw [c0, c1]
        subst e
        simp [p1, q]
      · have e : x ≠ y := by rintro rfl; exact c1 rfl
        simp [c0, c1, e, p1, q]
    · have e : x ≠ y := by rintro rfl; exact c0 rfl
      simp [c0, e]

set_option maxHeartbeats 1000000 in
theorem same_c (A B : Option Addr) (c d : Nat) (xs ys : List Sp) (w : World) {lo lo' : Nat} (h : Sps w lo A c xs) (h' : Sps w lo' B d ys) :
    Calls Try.prog 50 #[.slice A xs.length c, .slice B ys.length d] w fun e w' => e = .returned (.bool (decide (xs = ys))) ∧ Drawn w w' := by
  have hlen := h.len
  have hlen' := h'.len
  unfold maxN at hlen hlen'
  by_cases he : xs.length = ys.length
  · have b1 : ((xs.length : Int) != (ys.length : Int)) = false := by simp [he]
    have HE : Hid (xs.length = ys.length) := he
    clear he
    go_enter Try.func50, Try.ntmps50
    go_wp2
    go_loopg [13] (xs.length) (fun n i wr => ∃ k : Nat, k + n = xs.length ∧ i = .int .i64 k ∧ Hid (decide (xs.drop k = ys.drop k) = decide (xs = ys)) ∧ Drawn w wr)
    case atStart => exact ⟨0, by omega, rfl, by rw [List.drop_zero, List.drop_zero]; rfl, Drawn.refl _⟩
    case round =>
      obtain ⟨k, hk, rfl, HS, m, rfl⟩ := hrel
      by_cases hlt : k < xs.length
      · have hlt' : k < ys.length := by have := HE.out; omega
        obtain ⟨a, x, rfl, _, HD, h0, h1⟩ := h.at_ k hlt
        obtain ⟨a', y, rfl, _, HD', h0', h1'⟩ := h'.at_ k hlt'
        have ST : Hid _ := drop_eq_step HD.out HD'.out HS.out
        have N0 := fun wx => neqSp x y wx
        have N1 := gSp
        go_wp2
        go_quiet (fail)
        go_wp2
        · go_ret
          exact ⟨ret_bool (ST.out.1 (by simpa using ‹(!decide (x = y)) = true›)).symm, drewN_drewN _ _ _⟩
        · go_roundg (gk - 1)
          case rel => exact ⟨k + 1, by omega, by go_num, ST.out.2 (by simpa using ‹(!decide (x = y)) = false›), ⟨_, rfl⟩⟩
          case measure => omega
      · go_wp2
        go_ret
        exact ⟨ret_bool (by rw [← HS.out, List.drop_of_length_le (by omega), List.drop_of_length_le (by have := HE.out; omega)]; rfl), _, rfl⟩
  · have b1 : ((xs.length : Int) != (ys.length : Int)) = true := by simp; omega
    have b2 : (xs.length == ys.length) = false := by simp [he]
    have C : Hid (decide (xs = ys) = false) := decide_eq_false (by rintro rfl; exact he rfl)
    clear he
    go_enter Try.func50, Try.ntmps50
    go_wp2
    go_ret
    exact ⟨ret_bool C.out.symm, Drawn.refl _⟩

end Go.Proofs.Ytplhbjpkkhhilaa

/- Sets as 256 bits in memory. -/
namespace Go.Proofs.Ytplhbjpkkhhilaa
set_option linter.unusedSimpArgs false
set_option linter.unusedVariables false
open Go.RowKit

/-! ### 256 bits -/
abbrev TBits : Nat := 58
def bitCells (f : Nat → Bool) : List Value := (List.range 256).map fun i => .bool (f i)
theorem bitCells_length (f : Nat → Bool) : (bitCells f).length = 256 := by simp [bitCells]
theorem bitCells_get (f : Nat → Bool) (i : Nat) (h : i < 256) : (bitCells f)[i]? = some (.bool (f i)) := by simp [bitCells, h]
theorem bitCells_congr {f g : Nat → Bool} (h : ∀ i, i < 256 → f i = g i) : bitCells f = bitCells g := by
  unfold bitCells
  exact List.map_congr_left fun i hi => by rw [h i (List.mem_range.1 hi)]
theorem bitCells_set (f : Nat → Bool) (k : Nat) (b : Bool) : (bitCells f).set k (.bool b) = bitCells fun i => if i = k then b else f i := by
  apply List.ext_getElem?
  intro j
  rw [List.getElem?_set]
  by_cases hj : j < 256
  · have e := bitCells_get (fun i => if i = k then b else f i) _ hj
    rw [e, bitCells_length]
    by_cases hk : k = j
    · subst hk
      simp [hj]
    · rw [if_neg hk, bitCells_get _ _ hj, if_neg (fun e => hk e.symm)]
  · rw [List.getElem?_eq_none (by rw [bitCells_length]; omega : (bitCells fun i => if i = k then b else f i).length ≤ j), bitCells_length, List.getElem?_eq_none (by rw [bitCells_length]; omega : (bitCells f).length ≤ j)]
    split
    · rw [if_neg (by omega)]
    · rfl
theorem bitCells_one (f : Nat → Bool) : ∀ u ∈ bitCells f, u.oneCell' = true := by
  intro u hu
  obtain ⟨i, _, rfl⟩ := List.mem_map.1 hu
  rfl
theorem infoBits : (Try.prog.info? TBits).map (·.zero) = some (some (.agg (bitCells fun _ => false).toArray)) := by kernel_rfl
theorem sizeBits : (Try.prog.info? TBits).map (·.size) = some 256 := by kernel_rfl
theorem uBits : Try.prog.underlying TBits = some (.array 256 4) := Try.underlying58
theorem sizeBits' (f : Nat → Bool) : (Try.prog.info? TBits).map (·.size) = some (bitCells f).length := by rw [sizeBits, bitCells_length]
/-- an element of such a value -/
theorem run_index_bits (f : Nat → Bool) (k : Nat) (hk : k < 256) (w : World) : (Instr.index TBits (.agg (bitCells f).toArray) (.int .i64 k)).run Try.prog w = .ok (.bool (f k)) w := by
  have hu : Try.prog.underlying TBits = some (.array 256 4) := Try.underlying58
  obtain ⟨i, hi, hz⟩ := Option.map_eq_some_iff.1 (show (Try.prog.info? 4).map (·.size) = some 1 by kernel_rfl)
  simp [Instr.index, asIntOf, run_underlying hu, hk, sizeOf, typeInfo, hi, hz, part, isAgg, run_underlying Try.underlying4, bitCells_get f k hk]

end Go.Proofs.Ytplhbjpkkhhilaa

/- The reader of a code: pick, num, l15Open. -/
namespace Go.Proofs.Ytplhbjpkkhhilaa
set_option linter.unusedSimpArgs false
set_option linter.unusedVariables false
open Go.RowKit

abbrev TRd : Nat := 78
structure Rd (w : World) (g : Nat) (p : Nat) : Prop where
  ex : ∃ (A : Option Addr) (c : Nat) (bs : List Int), Blk w g #[.slice A bs.length c, .int .i64 p] TRd ∧ Bys w 0 A c bs ∧ (bs ≠ [] → ∀ a, A = some a → a.block < g) ∧ bs.length ≤ 2000
theorem CellsAt.moved {w w' : World} {a : Addr} {cs : List Value} (h : CellsAt w a cs) (he : w'.heap[a.block]? = w.heap[a.block]?) : CellsAt w' a cs := by
  intro j u hj
  have e : (a.add j).block = a.block := by unfold Addr.add; split <;> rfl
  rw [World.cell?_of_block (w := w) (by rw [e]; exact he)]
  exact h j u hj
theorem Rd.lt {w : World} {g p : Nat} (h : Rd w g p) : g < w.heap.size := by
  obtain ⟨A, c, bs, h1, _⟩ := h.ex
  exact h1.lt
theorem Rd.keep {w w' : World} {g p : Nat} (h : Rd w g p) (hk : ∀ k, k ≤ g → w'.heap[k]? = w.heap[k]?) : Rd w' g p := by
  obtain ⟨A, c, bs, h1, h2, h3, h4⟩ := h.ex
  refine ⟨A, c, bs, ⟨(hk g (Nat.le_refl _)).trans h1.eq⟩, ⟨?_, h2.cap, h2.len, h2.byte⟩, h3, h4⟩
  rcases h2.row with h5 | ⟨a, e, h6, h7⟩
  · exact .inl h5
  · by_cases hb : bs = []
    · exact .inl (by rw [hb]; rfl)
    · exact .inr ⟨a, e, h6, CellsAt.moved h7 (hk _ (Nat.le_of_lt (h3 hb a e)))⟩
theorem Rd.grown {w w' : World} {g p : Nat} (h : Rd w g p) {row : Option Nat} (hg : w.grownBy w' row) (hr : ∀ k, row = some k → g < k) : Rd w' g p :=
  h.keep fun k hk => hg.block k (by have := h.lt; omega) (fun e => by have := hr k e.symm; omega)
theorem Rd.below {w w' : World} {g p : Nat} (h : Rd w g p) (hb : Below w.heap.size w w') : Rd w' g p :=
  h.keep fun k hk => hb.block k (by have := h.lt; omega)
theorem Rd.step {w : World} {g p : Nat} (h : Rd w g p) (q : Nat) : Rd (w.setCell ⟨g, 1, none⟩ (.int .i64 q)) g q := by
  obtain ⟨A, c, bs, h1, h2, h3, h4⟩ := h.ex
  refine ⟨A, c, bs, ?_, ⟨?_, h2.cap, h2.len, h2.byte⟩, h3, h4⟩
  · have := h1.set 1 (.int .i64 q)
    simpa using this
  · rcases h2.row with h5 | ⟨a, e, h6, h7⟩
    · exact .inl h5
    · by_cases hb : bs = []
      · exact .inl (by rw [hb]; rfl)
      · exact .inr ⟨a, e, h6, CellsAt.moved h7 (Below.heap_setCell w _ _ _ (by have := h3 hb a e; show a.block ≠ g; omega))⟩
theorem grown_then {w w1 w2 : World} {row : Option Nat} (h : w.grownBy w1 row) (k : w1.grownBy w2 row) : w.grownBy w2 row :=
  ⟨k.os.trans h.os, k.tape.trans h.tape, k.output.trans h.output, Nat.le_trans h.size k.size, fun i hi hne => (k.block i (Nat.lt_of_lt_of_le hi h.size) hne).trans (h.block i hi hne)⟩
theorem grown_below {w w1 : World} {row : Option Nat} (h : Below w.heap.size w w1) : w.grownBy w1 row :=
  ⟨h.os, h.tape, h.output, h.size, fun i hi _ => h.block i hi⟩

theorem i64_xor {a b : Int} (ha : 0 ≤ a) (ha' : a < 9223372036854775808) (hb : 0 ≤ b) (hb' : b < 9223372036854775808) : ∃ m : Nat, bits .xor .i64 a b = m ∧ m < 9223372036854775808 := by
  obtain ⟨x, rfl⟩ := Int.eq_ofNat_of_zero_le ha
  obtain ⟨y, rfl⟩ := Int.eq_ofNat_of_zero_le hb
  have hx : x ^^^ y < 2 ^ 63 := Nat.xor_lt_two_pow (by omega) (by omega)
  have h1 : (BitVec.ofInt 64 (x : Int)).toNat = x := by
    rw [BitVec.ofInt_natCast, BitVec.toNat_ofNat]; exact Nat.mod_eq_of_lt (by omega)
  have h2 : (BitVec.ofInt 64 (y : Int)).toNat = y := by
    rw [BitVec.ofInt_natCast, BitVec.toNat_ofNat]; exact Nat.mod_eq_of_lt (by omega)
  refine ⟨x ^^^ y, ?_, by omega⟩
  show IntKind.i64.wrap ((BitVec.ofInt 64 (x : Int) ^^^ BitVec.ofInt 64 (y : Int)).toNat : Int) = _
  rw [BitVec.toNat_xor, h1, h2]
  exact IntWalk.i64_in _ (by omega)

theorem Bys.at_ {w : World} {lo : Nat} {A : Option Addr} {c : Nat} {bs : List Int} (h : Bys w lo A c bs) (k : Nat) (hk : k < bs.length) :
    ∃ a z, A = some a ∧ w.cell? (a.add k) = some (.int .u8 z) ∧ 0 ≤ z ∧ z < 256 := by
  rcases h.row with h0 | ⟨a, e, _, hc⟩
  · have := congrArg List.length h0
    simp at this
    subst this
    simp at hk
  · have := h.byte bs[k] (List.getElem_mem hk)
    exact ⟨a, bs[k], e, hc k _ (by simp [hk]), this.1, this.2⟩

theorem tmod_lo {a n : Int} (h : 0 ≤ a) : 0 ≤ a.tmod n := Int.tmod_nonneg n h
theorem tmod_hi {a n : Int} (h : 1 ≤ n) : a.tmod n < n := Int.tmod_lt_of_pos a (by omega)
theorem tmod_nat (a n : Nat) (h : 0 < n) : ∃ k : Nat, (a : Int).tmod (n : Int) = k ∧ k < n := ⟨a % n, by rw [Int.ofNat_tmod], Nat.mod_lt _ h⟩
theorem tdiv_nat (a n : Nat) : ∃ k : Nat, (a : Int).tdiv (n : Int) = k ∧ k ≤ a := ⟨a / n, by rw [Int.ofNat_tdiv], Nat.div_le_self _ _⟩

set_option maxHeartbeats 2000000 in
theorem pick_c (g p : Nat) (n : Int) (w : World) (h : Rd w g p) (hn : 1 ≤ n) (hn2 : n ≤ 1000000) (hp : p ≤ 1000000) :
    Calls Try.prog 41 #[.pointer (some ⟨g, 0, none⟩), .int .i64 n] w fun e w' => ∃ r : Int, e = .returned (.int .i64 r) ∧ 0 ≤ r ∧ r < n ∧ Rd w' g (p + 1) ∧ w.grownBy w' (some g) := by
  obtain ⟨A, c, bs, h1, h2, h3, h4⟩ := h.ex
  have c0 : w.cell? ⟨g, 0, none⟩ = some (.slice A bs.length c) := by rw [h1.cell]; rfl
  have c1 : w.cell? ⟨g, 1, none⟩ = some (.int .i64 p) := by rw [h1.cell]; rfl
  have f1 : w.frozen? ⟨g, 1, none⟩ = false := h1.free 1
  have HR : Hid (Rd (w.setCell ⟨g, 1, none⟩ (.int .i64 ((p : Int) + 1))) g (p + 1)) := h.step (p + 1)
  have HG : Hid (w.grownBy (w.setCell ⟨g, 1, none⟩ (.int .i64 ((p : Int) + 1))) (some g)) := grown_set (grown_refl w _) 1 _
  have HY : Hid (Bys (w.setCell ⟨g, 1, none⟩ (.int .i64 ((p : Int) + 1))) 0 A c bs) := by
    refine ⟨?_, h2.cap, h2.len, h2.byte⟩
    rcases h2.row with h5 | ⟨a, e, h6, h7⟩
    · exact .inl h5
    · by_cases hb : bs = []
      · exact .inl (by rw [hb]; rfl)
      · exact .inr ⟨a, e, h6, CellsAt.moved h7 (Below.heap_setCell w _ _ _ (by have := h3 hb a e; show a.block ≠ g; omega))⟩
  clear h h1 h2 h3
  by_cases hl : bs.length = 0
  · have b0 : ((bs.length : Int) == 0) = true := by simp [hl]
    have HL := Lib.hid hl
    clear hl
    go_enter Try.func41, Try.ntmps41
    go_wp2
    go_ret
    exact ⟨0, rfl, by omega, by omega, HR.out, HG.out⟩
  · have b0 : ((bs.length : Int) == 0) = false := by simp [hl]
    by_cases hk : p < bs.length
    · obtain ⟨a, z, rfl, c2, z0, z1⟩ := HY.out.at_ p hk
      clear hl
      go_enter Try.func41, Try.ntmps41
      go_wp2
      go_ret
      exact ⟨_, rfl, Int.emod_nonneg _ (by omega), Int.emod_lt_of_pos _ (by omega), HR.out, HG.out⟩
    · have hl' : 0 < bs.length := by omega
      obtain ⟨k1, e1, h1⟩ := tmod_nat p bs.length hl'
      obtain ⟨k2, e2, h2⟩ := tmod_nat (p * 7 + 3) bs.length hl'
      rw [show ((p * 7 + 3 : Nat) : Int) = (p : Int) * 7 + 3 by omega] at e2
      obtain ⟨k3, e3, h3⟩ := tdiv_nat p bs.length
      obtain ⟨a, z, rfl, c2, z0, z1⟩ := HY.out.at_ k1 h1
      obtain ⟨a', y, e, c3, y0, y1⟩ := HY.out.at_ k2 h2
      cases e
      have hne : ¬ bs = [] := by rintro rfl; simp at hl'
      have w0 : IntKind.i64.wrap z = z := IntWalk.i64_in _ (by omega)
      have w0' : IntKind.i64.wrap y = y := IntWalk.i64_in _ (by omega)
      have w1 : IntKind.i64.wrap ((p : Int) * 7) = (p : Int) * 7 := IntWalk.i64_in _ (by omega)
      have w2 : IntKind.i64.wrap ((p : Int) * 7 + 3) = (p : Int) * 7 + 3 := IntWalk.i64_in _ (by omega)
      have w3 : IntKind.i64.wrap (z * 131) = z * 131 := IntWalk.i64_in _ (by omega)
      have w4 : IntKind.i64.wrap (y * 1117) = y * 1117 := IntWalk.i64_in _ (by omega)
      have w5 : IntKind.i64.wrap (z * 131 + y * 1117) = z * 131 + y * 1117 := IntWalk.i64_in _ (by omega)
      have w6 : IntKind.i64.wrap ((p : Int) * 29) = (p : Int) * 29 := IntWalk.i64_in _ (by omega)
      have w7 : IntKind.i64.wrap (z * 131 + y * 1117 + (p : Int) * 29) = z * 131 + y * 1117 + (p : Int) * 29 := IntWalk.i64_in _ (by omega)
      have w8 : IntKind.i64.wrap ((k3 : Int) * 53) = (k3 : Int) * 53 := IntWalk.i64_in _ (by omega)
      have w9 : IntKind.i64.wrap (z * 131 + y * 1117 + (p : Int) * 29 + (k3 : Int) * 53) = z * 131 + y * 1117 + (p : Int) * 29 + (k3 : Int) * 53 := IntWalk.i64_in _ (by omega)
      obtain ⟨X, hX⟩ : ∃ X, X = z * 131 + y * 1117 + (p : Int) * 29 + (k3 : Int) * 53 := ⟨_, rfl⟩
      rw [← hX] at w9
      have hX0 : 0 ≤ X := by omega
      have hX1 : X < 100000000 := by omega
      have HX := Lib.hid hX
      clear hX hl
      go_enter Try.func41, Try.ntmps41
      go_wp2
      go_quiet (fail)
      clear w0 w0' w1 w2 w3 w4 w5 w6 w7 w8 w9 e1 e2 e3 c2 c3
      rw [← HX.out]
      have q0 : 0 ≤ X / 64 := by omega
      have q1 : X / 64 < 9223372036854775808 := by omega
      obtain ⟨m, hm, hm1⟩ := i64_xor hX0 (by omega) q0 q1
      clear q0 q1
      go_wp2
      go_ret
      exact ⟨_, rfl, Int.emod_nonneg _ (by omega), Int.emod_lt_of_pos _ (by omega), HR.out.below (below_drewN (Below.refl _ _) _), grown_then HG.out (grown_below (below_drewN (Below.refl _ _) _))⟩

theorem num_c (g p b c : Nat) (zs : List Int) (lo hi : Int) (w : World) (h : Rd w g p) (hc : CellsAt w ⟨b, 0, none⟩ (zs.map fun z => .int .i64 z)) (hbg : b ≠ g) (hb : b < w.heap.size) (hz : ∀ z ∈ zs, lo ≤ z ∧ z ≤ hi) (hl : 0 < zs.length) (hl2 : zs.length ≤ 1000000) (hp : p ≤ 1000000) :
    Calls Try.prog 58 #[.pointer (some ⟨g, 0, none⟩), .slice (some ⟨b, 0, none⟩) zs.length c] w fun e w' => ∃ r : Int, e = .returned (.int .i64 r) ∧ lo ≤ r ∧ r ≤ hi ∧ Rd w' g (p + 1) ∧ w.grownBy w' (some g) := by
  go_enter Try.func58, Try.ntmps58
  go_wp2_with fail
  refine (pick_c g p _ _ h (by omega) (by omega) hp).mono ?_
  rintro e w1 ⟨r, rfl, r0, r1, HR, HG⟩
  obtain ⟨k, rfl⟩ := Int.eq_ofNat_of_zero_le r0
  have hk : k < zs.length := by omega
  have c1 : w1.cell? ⟨b, k, none⟩ = some (.int .i64 zs[k]) := by
    have e0 : (⟨b, 0, none⟩ : Addr).add k = ⟨b, k, none⟩ := by unfold Addr.add; split <;> simp_all
    rw [World.cell?_of_block (w := w) (HG.block b hb (by simpa using hbg)), ← e0]
    exact hc k _ (by simp [hk])
  have hzk := hz zs[k] (List.getElem_mem hk)
  have hR := Lib.hid HR
  have hG := Lib.hid HG
  obtain ⟨z, hz1⟩ : ∃ z, zs[k] = z := ⟨_, rfl⟩
  rw [hz1] at c1 hzk
  clear HR HG hz hz1
  go_wp2
  go_ret
  exact ⟨z, rfl, hzk.1, hzk.2, hR.out, hG.out⟩

theorem open_c (A : Option Addr) (c : Nat) (bs : List Int) (w : World) (h : Bys w 0 A c bs) :
    Calls Try.prog 40 #[.slice A bs.length c] w fun e w' => ∃ g, e = .returned (.pointer (some ⟨g, 0, none⟩)) ∧ Rd w' g 0 ∧ w.heap.size ≤ g ∧ Below w.heap.size w w' := by
  have hlt : bs ≠ [] → ∀ a, A = some a → a.block < w.heap.size := by
    intro hb a e
    subst e
    obtain ⟨a', z, e, h1, _⟩ := h.at_ 0 (List.length_pos_iff.2 hb)
    cases e
    have := World.block_lt_of_cell? w _ h1
    simpa [Addr.add] using this
  have hcap := h.cap
  have hlen := h.len
  unfold maxN at hlen
  by_cases hl : (2000 : Int) < bs.length
  · have e1 : (bs.take 2000).length = 2000 := by rw [List.length_take]; omega
    have HT : Hid (Bys w 0 A c (bs.take 2000)) := by
      refine ⟨?_, by omega, by rw [e1]; unfold maxN; omega, fun z hz => h.byte z (List.mem_of_mem_take hz)⟩
      rcases h.row with h5 | ⟨a, e, h6, h7⟩
      · exact .inl (by rw [List.map_eq_nil_iff] at h5; subst h5; simp)
      · refine .inr ⟨a, e, h6, fun j u hj => h7 j u ?_⟩
        rw [List.map_take, List.getElem?_take] at hj
        split at hj
        · exact hj
        · cases hj
    have HB := Lib.hid (blk_new w #[.slice A 2000 c, .int .i64 0] TRd)
    have HL := Lib.hid hlt
    have E1 := Lib.hid e1
    have hA : ∃ a, A = some a := by
      obtain ⟨a', _, e, _⟩ := h.at_ 0 (by omega)
      exact ⟨a', e⟩
    obtain ⟨a, rfl⟩ := hA
    have HN : Hid (bs ≠ []) := by rintro rfl; simp at hl
    clear hlt h e1
    go_enter Try.func40, Try.ntmps40
    go_wp2
    go_ret
    refine ⟨w.heap.size, rfl, ⟨some a, c, bs.take 2000, ?_, HT.out.below (below_alloc (Below.refl _ _) _), fun _ a' e => HL.out HN.out a' e, by rw [E1.out]; exact Nat.le_refl _⟩, Nat.le_refl _, below_alloc (Below.refl _ _) _⟩
    rw [E1.out]
    exact HB.out
  · have HB := Lib.hid (blk_new w #[.slice A bs.length c, .int .i64 0] TRd)
    have HL := Lib.hid hlt
    have HH := Lib.hid h
    clear hlt h
    go_enter Try.func40, Try.ntmps40
    go_wp2
    go_ret
    exact ⟨w.heap.size, rfl, ⟨A, c, bs, HB.out, HH.out.below (below_alloc (Below.refl _ _) _), fun hb a e => HL.out hb a e, by omega⟩, Nat.le_refl _, below_alloc (Below.refl _ _) _⟩

theorem min_c (a b : Int) (w : World) :
    Calls Try.prog 71 #[.int .i64 a, .int .i64 b] w fun e w' => e = .returned (.int .i64 (if a < b then a else b)) ∧ w = w' := by
  go_enter Try.func71, Try.ntmps71
  by_cases h : a < b
  · rw [if_pos h]
    go_wp2
    go_ret
    exact ⟨rfl, rfl⟩
  · rw [if_neg h]
    go_wp2
    go_ret
    exact ⟨rfl, rfl⟩

end Go.Proofs.Ytplhbjpkkhhilaa

/- copied, at spans: the same cells in new memory. -/
namespace Go.Proofs.Ytplhbjpkkhhilaa
set_option linter.unusedSimpArgs false
set_option linter.unusedVariables false
open Go.RowKit

theorem sizeSp : (Try.prog.info? TSp).map (·.size) = some 2 := by kernel_rfl
/-- a row copied: the same cells in new memory -/
theorem copiedSpan_c (A : Option Addr) (c n : Nat) (cs : List Value) (w : World) {lo : Nat} (h : Row w lo A cs) (hn : cs.length = n * 2) (h1 : ∀ u ∈ cs, u.oneCell' = true) (hx : n * 16 ≤ 140737488355328) :
    Calls Try.prog 73 #[.slice A n c] w fun e w' => ∃ v, e = .returned v ∧ w'.ownsRow w.heap.size TSp 2 v n cs ∧ Below w.heap.size w w' := by
  by_cases h0 : n = 0
  · subst h0
    go_enter Try.func73, Try.ntmps73
    go_wp2
    go_ret
    have : cs = [] := by simpa using hn
    subst this
    exact ⟨_, rfl, World.ownsRow_nil _ _ _ _, Below.refl _ _⟩
  · obtain ⟨i0, hi, hz0, hz1, hz2⟩ := info_parts infoSp
    have b0 : ((n : Int) == 0) = false := by simp [h0]
    have h0' : 0 < n := by omega
    clear h0
    rcases h with rfl | ⟨ad, rfl, _, hc⟩
    · simp at hn; omega
    have HN : Hid (cs.length = n * 2) := hn
    clear hn
    go_enter Try.func73, Try.ntmps73
    go_wp2_with (first
      | (at_make; refine wpList_make_full _ rfl (.tmp 8) (.tmp 8) 27 rfl w.heap.size TSp i0 (.agg #[.int .i64 0, .int .i64 0]) 2 Try.underlying27 hi hz0 hz1 .i64 .i64 _ _ n rfl rfl rfl rfl (by rw [hz2]; omega) (by unfold maxLen; omega) (Nat.le_refl _) ?_; intro w1 hown hgrow; obtain ⟨cur, hB, hsz, _⟩ := own_blk hown; have hb1 := (Below.refl _ w).grown hgrow (Nat.le_refl _) (fun k hk => by cases hk); have hc1 := hc.below hb1; clear hown hgrow; have HS : Hid (cur.size = n * 2) := hsz; clear hsz)
      | (with_reducible refine ev_copy (o := ⟨some 12, _, _, _, _, _⟩) rfl (.tmp 10) (.tmp 11) _ _ rfl TSp Try.underlying27 2 sizeSp w.heap.size n n _ ad rfl rfl cur TSp hB cs HN.out hc1 (by rw [HN.out, HS.out]; exact Nat.le_refl _) h1 ?_; intro w2 hB2 hg2))
    go_ret
    have e : cur.toList.drop cs.length = [] := List.drop_of_length_le (by rw [Array.length_toList, HN.out, HS.out]; exact Nat.le_refl _)
    rw [e, List.append_nil] at hB2
    exact ⟨_, rfl, own_of_blk hB2 HN.out (Nat.le_refl _) (by unfold maxLen; omega), hb1.grown hg2 hb1.size (fun k hk => by injection hk with hk; omega)⟩

end Go.Proofs.Ytplhbjpkkhhilaa

/- bitsOf: the bits of a set. -/
namespace Go.Proofs.Ytplhbjpkkhhilaa
set_option linter.unusedSimpArgs false
set_option linter.unusedVariables false
open Go.RowKit

theorem bit_cell {w : World} {g : Nat} {f : Nat → Bool} (h : Blk w g (bitCells f).toArray TBits) (k : Nat) (hk : k < 256) : w.cell? ⟨g, k, none⟩ = some (.bool (f k)) := by
  rw [h.cell]
  simpa using bitCells_get f k hk
theorem bit_set {w : World} {g : Nat} {f : Nat → Bool} (h : Blk w g (bitCells f).toArray TBits) (k : Nat) (b : Bool) : Blk (w.setCell ⟨g, k, none⟩ (.bool b)) g (bitCells fun i => if i = k then b else f i).toArray TBits := by
  have := h.set k (.bool b)
  rw [show (bitCells f).toArray.setIfInBounds k (.bool b) = ((bitCells f).set k (.bool b)).toArray by simp, bitCells_set] at this
  exact this

set_option maxHeartbeats 1000000 in
set_option maxRecDepth 100000 in
theorem bitsOf_c (A : Option Addr) (c : Nat) (xs : List Sp) (w : World) {lo : Nat} (h : Sps w lo A c xs) :
    Calls Try.prog 45 #[.slice A xs.length c] w fun e w' => e = .returned (.agg (bitCells fun i => setHas xs i).toArray) ∧ Below w.heap.size w w' := by
  go_enter Try.func45, Try.ntmps45
  go_wp2_with (first
    | (with_reducible refine ev_alloc (o := ⟨some 2, _, _, _, _, _⟩) rfl TBits rfl _ infoBits ?_; rintro _ w2 rfl hB2 hb2)
    | (with_reducible refine ev_alloc (o := ⟨some 3, _, _, _, _, _⟩) rfl TBits rfl _ infoBits ?_; rintro _ w3 rfl hB3 hb3))
  have HR : Hid (Blk w3 w.heap.size (bitCells fun _ => false).toArray TBits) := hB2.below hb3
  have HB : Hid (Below w.heap.size w w3) := below_then hb2 hb3
  have HO : Hid (Blk w3 w2.heap.size (bitCells fun _ => false).toArray TBits) := hB3
  have hlt := hB2.lt
  clear hB2 hB3 hb2 hb3
  go_loopg [5] 256 (fun n i wr => ∃ k : Nat, Hid (k + n = 256) ∧ i = .int .i64 k ∧ ∃ f : Nat → Bool, Hid (Blk wr w2.heap.size (bitCells f).toArray TBits) ∧ Hid (∀ j, j < k → f j = setHas xs j) ∧ Hid (Blk wr w.heap.size (bitCells fun _ => false).toArray TBits) ∧ Hid (Below w.heap.size w wr))
  case atStart => exact ⟨0, rfl, rfl, _, HO, fun j hj => absurd hj (Nat.not_lt_zero _), HR, HB⟩
  case round =>
    clear HO HR HB
    obtain ⟨k, hk, rfl, f, HO, HF, HR, HB⟩ := hrel
    by_cases hk2 : k < 256
    · go_wp2_with fail
      refine (iSetHas_c _ _ _ _ _ (h.below HB.out)).mono ?_
      rintro e w4 ⟨rfl, hb⟩
      have HO2 : Hid _ := HO.out.below hb
      have HR2 : Hid _ := HR.out.below hb
      have HB2 : Hid _ := below_then HB.out hb
      have c0 := bit_cell HO2.out k hk2
      have f0 := HO2.out.free k
      clear HO HR HB hb
      go_wp2
      go_roundg (gk - 1)
      case rel =>
        refine ⟨k + 1, by have := hk.out; show _ = _; omega, by go_num, _, bit_set HO2.out k _, ?_, HR2.out.far (by simp; omega) _, below_set HB2.out (by simp; omega) _⟩
        intro j hj
        by_cases e : j = k
        · rw [if_pos e, e]
        · rw [if_neg e]
          exact HF.out j (by omega)
      case measure => have := hk.out; omega
    · have hF : bitCells f = bitCells fun i => setHas xs i := bitCells_congr fun i hi => HF.out i (by omega)
      go_wp2_with (first
        | (with_reducible refine ev_load (o := ⟨some 14, _, _, _, _, _⟩) rfl TBits _ rfl w2.heap.size rfl (bitCells f) TBits HO.out _ uBits rfl (sizeBits' f) ?_)
        | (with_reducible refine ev_store (o := ⟨none, _, _, _, _, _⟩) rfl rfl TBits (.tmp 2) (.tmp 14) rfl w.heap.size 0 rfl (bitCells f) rfl (bitCells fun _ => false).toArray TBits HR.out (sizeBits' f) (by simp [bitCells_length]) (bitCells_one f) ?_; intro w5 hs hg))
      have hs' : Blk w5 w.heap.size (bitCells fun i => setHas xs i).toArray TBits := by
        rw [← hF]
        rw [List.take_zero, List.nil_append, List.drop_of_length_le (by rw [bitCells_length, bitCells_length]; omega), List.append_nil] at hs
        exact hs
      exact bodyPost_ret (results_cell_row rfl _ _ w.heap.size TBits _ (0, 0) _ rfl hs'.eq uBits rfl (by rw [sizeBits]; simp [bitCells_length])) rfl ⟨rfl, HB.out.grown hg HB.out.size (fun k hk => by injection hk with hk; omega)⟩

end Go.Proofs.Ytplhbjpkkhhilaa
