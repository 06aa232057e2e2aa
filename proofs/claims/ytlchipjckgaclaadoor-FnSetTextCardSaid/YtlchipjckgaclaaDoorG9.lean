/- Texts joined for the claims: Ts Tq Shelf5 Sp W4 Bits W5 W6 W9. -/
import Derived.Test.YtlchipjckgaclaaDoorG8
import Derived.Test.YtlchipjckgaclaaDoorG3
import Derived.Deep.RegionHeld3
import Derived.Shelf.Strings.Search1
import Derived.Shelf.Strings.Search2
import Derived.Shelf.Strings.Search3
import Derived.Shelf.Strings.Cut
import Derived.Shelf.Strings.Shaped
import Derived.Shelf.Strings.Split
import Derived.Test.YtlchipjckgaclaaDoorProg
import Derived.Test.YtlchipjckgaclaaDoorG6
import Derived.Test.YtlchipjckgaclaaDoorG7
import Derived.Test.YtlchipjckgaclaaDoorG2
import Derived.Test.YtlchipjckgaclaaDoorG1
import Derived.Laws.StructEq
/- Patterns as texts: RexText of the program; bounds. -/
namespace Go.Proofs.YtlchipjckgaclaaDoor
set_option linter.unusedSimpArgs false
set_option linter.unusedVariables false
set_option maxRecDepth 100000
open Go.RowKit

theorem set_len {s : List Sp} (h : setOk s = true) : (setTxt s).length ≤ 44 * s.length + 2 := by
  unfold setTxt
  split
  · simp
  · have := acc_len s (ok_64 h) s.length (Nat.le_refl _)
    rw [List.take_length] at this
    omega
theorem kid_len : ∀ ks : List Rex, (∀ r ∈ ks, (rexTxt r).length ≤ 50 * r.size + 10) → (kidTxts ks).length ≤ 11 * ks.length + 50 * sizeL ks
  | [], _ => by simp [kidTxts, sizeL]
  | r :: ks, h => by
    have h1 := kid_len ks fun x hx => h x (by simp [hx])
    have h2 := h r (by simp)
    rw [kidTxts, sizeL, List.length_cons, List.length_append, List.length_cons]
    omega
theorem txt_len (r : Rex) : ∀ d, formed d r = true → (rexTxt r).length ≤ 50 * r.size + 10 := by
  refine Rex.ind (p := fun r => ∀ d, formed d r = true → (rexTxt r).length ≤ 50 * r.size + 10) (fun k s ks ih => ?_) r
  intro d hd
  obtain ⟨hkk, _, hok, _, hfk⟩ := formed_node hd
  by_cases h1 : k = 1
  · subst h1
    have hk0 : ks = [] := by
      rcases kidsOf_cases hkk with ⟨_, e⟩ | ⟨e, _⟩ | ⟨e, _⟩
      · exact List.length_eq_zero_iff.1 e
      · omega
      · omega
    subst hk0
    have h2 := set_len hok
    have h3 := kw_len 1
    rw [rexTxt_set, Rex.size, List.length_append, List.length_append, List.length_singleton]
    omega
  · have h2 := kid_len ks fun r hr => ih r hr (d - 1) (hfk r hr)
    have h3 := kw_len k
    rw [rexTxt_kids h1, Rex.size, List.length_append]
    omega
theorem kidTxts_app : ∀ a b : List Rex, kidTxts (a ++ b) = kidTxts a ++ kidTxts b
  | [], b => rfl
  | r :: a, b => by rw [List.cons_append, kidTxts, kidTxts, kidTxts_app a b]; simp
theorem kidTxts_le (ks : List Rex) (j : Nat) : (kidTxts (ks.take j)).length ≤ (kidTxts ks).length := by
  have : kidTxts ks = kidTxts (ks.take j) ++ kidTxts (ks.drop j) := by rw [← kidTxts_app, List.take_append_drop]
  rw [this, List.length_append]
  omega
theorem iJoinW_c (ws : List (List UInt8)) (g c : Nat) (w : World) {base : Nat} (h : w.ownsRow base TStr 1 (.slice (some ⟨g, 0, none⟩) ws.length c) ws.length (wcells ws)) (hn : ws.length ≤ 1048576) (hc : ws.length ≤ c) (hlen : (Lib.join ws [32]).length ≤ 140737488355328) :
    Calls Tryd.prog 44 #[.slice (some ⟨g, 0, none⟩) ws.length c, .string ⟨#[32]⟩] w fun e w' => e = .returned (.string (str (Lib.join ws [32]))) ∧ Below w.heap.size w w' := by
  have hl : (ws.map str).length = ws.length := List.length_map _
  have e : ((ws.map str).map (·.data.toList)) = ws := by
    rw [List.map_map]
    exact (List.map_congr_left fun x _ => rfl).trans (List.map_id _)
  have hj := Tryd.strings_Join g 0 c (ws.map str) ⟨#[32]⟩ w (fun j x hj => by
    rw [Nat.zero_add, h.cellAt j (by have := (List.getElem?_eq_some_iff.1 hj).1; rw [hl] at this; omega)]
    rw [List.getElem?_map, Option.map_eq_some_iff] at hj
    obtain ⟨y, hy, rfl⟩ := hj
    unfold wcells
    rw [List.getElem?_map, hy]
    rfl) (own_base h g rfl).2 (by rw [hl]; omega) (by rw [hl]; exact hc) (by rw [e]; exact hlen)
  rw [hl, e] at hj
  exact hj
theorem words_pos (r : Rex) : 0 < (wordsOf r).length := by
  obtain ⟨k, s, ks⟩ := r
  rw [wordsOf]
  simp
def rexText (r : Rex) : List UInt8 := if rexOk r then rexTxt r else []

set_option maxHeartbeats 1000000 in
theorem iTextOf_c (r : Rex) (v1 v2 : Value) (w : World) (lo : Nat) (h : RexV w lo r (.int .i64 r.kind) v1 v2) (hsz : r.size ≤ 1048576) (hok : rexOk r = true) (hp : Pow10 w) :
    Calls Tryd.prog 49 #[.agg #[.int .i64 r.kind, v1, v2]] w fun e w' => e = .returned (.string (str (rexTxt r))) ∧ Below w.heap.size w w' := by
  have hf := rexOk_formed hok
  have hm : r.many ≤ 24 := by rw [rexOk, Bool.and_eq_true] at hok; exact of_decide_eq_true hok.2
  obtain ⟨A, c, K, ck, _, rfl, rfl, _, _⟩ := h.parts
  obtain ⟨wa, hwa⟩ : ∃ x, x = w.alloc (.cells #[.int .i64 r.kind, .slice A r.set.length c, .slice K r.kids.length ck] TRx) := ⟨_, rfl⟩
  have hb : Below w.heap.size w wa := by rw [hwa]; exact below_alloc (Below.refl _ _) _
  have m0 : Blk wa w.heap.size #[.int .i64 r.kind, .slice A r.set.length c, .slice K r.kids.length ck] TRx := by rw [hwa]; exact blk_new w _ _
  have HV := Lib.hid (h.under hb)
  have HB := Lib.hid hb
  have M0 := Lib.hid m0
  clear m0 h
  replace hwa := hwa.symm
  have n0 : wa.cell? ⟨w.heap.size, 0, none⟩ = some (.int .i64 r.kind) := by rw [M0.out.cell]; rfl
  have n0' : wa.cell? ⟨w.heap.size, 1, none⟩ = some (.slice A r.set.length c) := by rw [M0.out.cell]; rfl
  have n0'' : wa.cell? ⟨w.heap.size, 2, none⟩ = some (.slice K r.kids.length ck) := by rw [M0.out.cell]; rfl
  have HPA := Lib.hid (hp.below hb)
  have HW := Lib.hid (words_many r)
  have HL := Lib.hid (txt_len r 8 hf)
  clear hok hp hb
  go_enter Tryd.func49, Tryd.ntmps49
  go_wp2_with fail
  clear hwa
  refine (iWrite_c r 8 _ _ wa wa lo none 0 0 [] hf HV.out (Below.refl _ _) (World.ownsRow_nil _ _ _ _) rfl hsz (by omega) HPA.out).mono ?_
  rintro e w1 ⟨A3, n3, c3, rfl, h3, o3, b3⟩
  rw [List.nil_append] at h3 o3
  subst h3
  obtain ⟨g, cc, e3, hg3, hc3⟩ := own_form o3 (words_pos r)
  injection e3 with e31 e32 e33
  subst e31 e33
  have HO := Lib.hid o3
  have HB3 := Lib.hid b3
  clear n0 n0' n0'' o3 b3
  go_wp2_with fail
  refine (iJoinW_c (wordsOf r) g c3 w1 HO.out (by have := HW.out; omega) hc3 (by have := HL.out; unfold rexTxt at this; omega)).mono ?_
  rintro e w2 ⟨rfl, b2⟩
  go_wp2_with fail
  go_ret
  exact ⟨rfl, below_then HB.out (below_then HB3.out b2)⟩
set_option maxHeartbeats 1000000 in
theorem iRexText_c (r : Rex) (v1 v2 : Value) (w : World) (lo : Nat) (h : RexV w lo r (.int .i64 r.kind) v1 v2) (hsz : r.size ≤ 1048576) (hp : Pow10 w) :
    Calls Tryd.prog 17 #[.agg #[.int .i64 r.kind, v1, v2]] w fun e w' => e = .returned (.string (str (rexText r))) ∧ Below w.heap.size w w' := by
  obtain ⟨A, c, K, ck, _, rfl, rfl, _, _⟩ := h.parts
  obtain ⟨wa, hwa⟩ : ∃ x, x = w.alloc (.cells #[.int .i64 r.kind, .slice A r.set.length c, .slice K r.kids.length ck] TRx) := ⟨_, rfl⟩
  have hb : Below w.heap.size w wa := by rw [hwa]; exact below_alloc (Below.refl _ _) _
  have m0 : Blk wa w.heap.size #[.int .i64 r.kind, .slice A r.set.length c, .slice K r.kids.length ck] TRx := by rw [hwa]; exact blk_new w _ _
  have HV := Lib.hid (h.under hb)
  have HB := Lib.hid hb
  have M0 := Lib.hid m0
  clear m0 h
  replace hwa := hwa.symm
  have n0 : wa.cell? ⟨w.heap.size, 0, none⟩ = some (.int .i64 r.kind) := by rw [M0.out.cell]; rfl
  have n0' : wa.cell? ⟨w.heap.size, 1, none⟩ = some (.slice A r.set.length c) := by rw [M0.out.cell]; rfl
  have n0'' : wa.cell? ⟨w.heap.size, 2, none⟩ = some (.slice K r.kids.length ck) := by rw [M0.out.cell]; rfl
  have HPA := Lib.hid (hp.below hb)
  clear hp hb
  go_enter Tryd.func17, Tryd.ntmps17
  go_wp2_with fail
  clear hwa
  refine (iRexOk_c _ _ _ _ _ HV.out hsz).mono ?_
  rintro e w1 ⟨rfl, b1⟩
  replace M0 := Lib.hid (M0.out.below b1)
  have H1 := Lib.hid b1
  clear n0 n0' n0'' b1
  have n0 : w1.cell? ⟨w.heap.size, 0, none⟩ = some (.int .i64 r.kind) := by rw [M0.out.cell]; rfl
  have n0' : w1.cell? ⟨w.heap.size, 1, none⟩ = some (.slice A r.set.length c) := by rw [M0.out.cell]; rfl
  have n0'' : w1.cell? ⟨w.heap.size, 2, none⟩ = some (.slice K r.kids.length ck) := by rw [M0.out.cell]; rfl
  by_cases hf : rexOk r = true
  · have HF := Lib.hid hf
    rw [hf]
    clear hf
    go_wp2_with fail
    refine (iTextOf_c r _ _ w1 lo (HV.out.under H1.out) hsz HF.out (HPA.out.below H1.out)).mono ?_
    rintro e w2 ⟨rfl, b2⟩
    clear n0 n0' n0''
    go_wp2_with fail
    go_ret
    exact ⟨by rw [rexText, if_pos HF.out]; rfl, below_then HB.out (below_then H1.out b2)⟩
  · have HF := Lib.hid hf
    rw [show rexOk r = false by simpa using hf]
    clear hf
    go_wp2_with fail
    go_ret
    exact ⟨by rw [rexText, if_neg HF.out]; rfl, below_then HB.out H1.out⟩

end Go.Proofs.YtlchipjckgaclaaDoor

/- Patterns as texts: RexText of the reference. -/
namespace Go.Proofs.YtlchipjckgaclaaDoor
set_option linter.unusedSimpArgs false
set_option linter.unusedVariables false
set_option maxRecDepth 100000
open Go.RowKit

def kwCells : Array Value := #[.string (str (kw 0)), .string (str (kw 1)), .string (str (kw 2)), .string (str (kw 3)), .string (str (kw 4)), .string (str (kw 5)), .string (str (kw 6)), .string (str (kw 7))]
theorem kwCells_get (n : Nat) (h : n < 8) : kwCells[n]? = some (.string (str (kw n))) := by
  match n, h with
  | 0, _ => rfl
  | 1, _ => rfl
  | 2, _ => rfl
  | 3, _ => rfl
  | 4, _ => rfl
  | 5, _ => rfl
  | 6, _ => rfl
  | 7, _ => rfl
set_option maxHeartbeats 1000000 in
theorem sWords_c (w : World) :
    Calls Tryd.prog 81 #[] w fun e w' => ∃ g, e = .returned (.slice (some ⟨g, 0, none⟩) 8 8) ∧ (∀ n : Nat, n < 8 → w'.cell? ⟨g, n, none⟩ = some (.string (str (kw n)))) ∧ Below w.heap.size w w' := by
  go_enter Tryd.func81, Tryd.ntmps81
  go_wp2_with fail
  go_ret
  refine ⟨w.heap.size, rfl, fun n hn => ?_, below_alloc (Below.refl _ _) _⟩
  have := (blk_new w kwCells TStr).cell n
  rw [kwCells_get n hn] at this
  exact this

def TextOk (r : Rex) : Prop := ∀ (d : Nat) (v1 v2 : Value) (w : World) (lo : Nat), formed d r = true → RexV w lo r (.int .i64 r.kind) v1 v2 → r.size ≤ 1048576 →
  Calls Tryd.prog 47 #[.agg #[.int .i64 r.kind, v1, v2]] w fun e w' => e = .returned (.string (str (rexTxt r))) ∧ Below w.heap.size w w'
set_option maxHeartbeats 2000000 in
theorem sText_c (r : Rex) : TextOk r := by
  refine Rex.ind (p := TextOk) (fun k s ks ih => ?_) r
  intro d v1 v2 w lo hd h hsz
  obtain ⟨A, c, K, ck, _, rfl, rfl, hs, hk⟩ := h.parts
  dsimp only [Rex.kind, Rex.set, Rex.kids] at hs hk ⊢
  rw [Rex.size] at hsz
  clear h
  obtain ⟨hkk, _, hok, _, hfk⟩ := formed_node hd
  have HFK : Hid (∀ r, r ∈ ks → formed (d - 1) r = true) := hfk
  have H64 := Lib.hid (ok_64 hok)
  have HKL := Lib.hid (kid_len ks fun r hr => txt_len r (d - 1) (hfk r hr))
  have hk0 : k = 1 → ks = [] := fun e => by
    rcases kidsOf_cases hkk with ⟨_, e⟩ | ⟨e, _⟩ | ⟨e, _⟩
    · exact List.length_eq_zero_iff.1 e
    · omega
    · omega
  obtain ⟨n, rfl, hn8⟩ : ∃ n : Nat, k = n ∧ n < 8 := by
    rcases kidsOf_cases hkk with ⟨e, _⟩ | ⟨e, _⟩ | ⟨e, _⟩ <;> exact ⟨k.toNat, by omega, by omega⟩
  have HK0 := Lib.hid hk0
  obtain ⟨wa, hwa⟩ : ∃ x, x = w.alloc (.cells #[.int .i64 (n : Int), .slice A s.length c, .slice K ks.length ck] TRx) := ⟨_, rfl⟩
  have hb : Below w.heap.size w wa := by rw [hwa]; exact below_alloc (Below.refl _ _) _
  have m0 : Blk wa w.heap.size #[.int .i64 (n : Int), .slice A s.length c, .slice K ks.length ck] TRx := by rw [hwa]; exact blk_new w _ _
  replace hwa := hwa.symm
  have HK := Lib.hid hk
  have HS := Lib.hid hs
  have HB := Lib.hid hb
  have M0 := Lib.hid m0
  have HC : Hid (∀ w', Below wa.heap.size wa w' → w'.cell? ⟨w.heap.size, 0, none⟩ = some (.int .i64 (n : Int))) := fun w' hb' => ((m0.below hb').cell 0).trans rfl
  clear hs hk hd hok hfk hkk hk0 hb m0
  have i0 : (0 : Int) ≤ (n : Int) := by omega
  have i1 : (n : Int) < 8 := by omega
  go_enter Tryd.func47, Tryd.ntmps47
  go_wp2_with fail
  clear hwa
  refine wp_region_held_drew (S := fun w' => w'.cell? ⟨w.heap.size, 0, none⟩ = some (.int .i64 (n : Int))) (by kernel_rfl) (HC.out _ (below_drew (Below.refl _ _))) (fun hHeld0 => ?_)
  refine wpAnyH_take (i := 1) (v := ?_) rfl (by kernel_rfl) (by kernel_rfl) (by kernel_rfl) (fun _ _ _ h => h) (Or.inl ⟨by rfl, ?_⟩) (by assumption) ?_
  rotate_left
  · (intro w hSw; (try dsimp only at hSw); go_simp; try with_reducible rfl)
  try simp only [Act.put, List.getElem_toArray, List.getElem_cons_zero, List.getElem_cons_succ, List.setIfInBounds_toArray, List.set_cons_zero, List.set_cons_succ]
  refine wpAnyH_take (i := 2) (v := ?_) rfl (by kernel_rfl) (by kernel_rfl) (by kernel_rfl) (fun _ _ _ h => h) (Or.inl ⟨by rfl, ?_⟩) (by assumption) ?_
  rotate_left
  · (intro w hSw; (try dsimp only at hSw); go_simp; try with_reducible rfl)
  try simp only [Act.put, List.getElem_toArray, List.getElem_cons_zero, List.getElem_cons_succ, List.setIfInBounds_toArray, List.set_cons_zero, List.set_cons_succ]
  refine wpAnyH_ready (rs := [0]) (by kernel_rfl) (by simp) ?_
  refine AllReadyH.cons (o := ⟨some 5, _, _, _, _, _⟩) rfl (fun K hK => ?_) AllReadyH.nil
  go_simp
  refine (sWords_c wa.drew).mono ?_
  rintro e w1 ⟨g, rfl, hc, b1⟩
  have B1 := Lib.hid (below_then (below_drew (Below.refl wa.heap.size wa)) b1)
  obtain ⟨kwn, hkwn⟩ : ∃ l, l = kw (n : Int) := ⟨_, rfl⟩
  have c0 := hc n hn8
  rw [← hkwn] at c0
  have HKW := Lib.hid hkwn
  have hkl : kwn.length ≤ 5 := by rw [hkwn]; exact kw_len _
  have hz0 := str_size kwn
  clear hc b1 hkwn
  (try go_wp2_with fail)
  refine hK.out _ _ (HC.out w1 B1.out) (fun hHeld1 => ?_)
  clear hK K hHeld0
  try simp only [Act.put, List.getElem_toArray, List.getElem_cons_zero, List.getElem_cons_succ, List.setIfInBounds_toArray, List.set_cons_zero, List.set_cons_succ]
  refine wpAnyH_take (i := 3) (v := ?_) rfl (by kernel_rfl) (by kernel_rfl) (by kernel_rfl) (fun _ _ _ h => h) (Or.inl ⟨by rfl, ?_⟩) (by assumption) ?_
  rotate_left
  · (intro w hSw; (try dsimp only at hSw); go_simp; try with_reducible rfl)
  try simp only [Act.put, List.getElem_toArray, List.getElem_cons_zero, List.getElem_cons_succ, List.setIfInBounds_toArray, List.set_cons_zero, List.set_cons_succ]
  refine wpAnyH_ready (rs := [4]) (by kernel_rfl) (by simp) ?_
  refine AllReadyH.cons (o := ⟨some 9, _, _, _, _, _⟩) rfl (fun K hK => ?_) AllReadyH.nil
  go_simp
  refine hK.out _ _ (HC.out w1 B1.out) (fun hHeld2 => ?_)
  clear hK K hHeld1
  try simp only [Act.put, List.getElem_toArray, List.getElem_cons_zero, List.getElem_cons_succ, List.setIfInBounds_toArray, List.set_cons_zero, List.set_cons_succ]
  refine wpAnyH_take (i := 5) (v := ?_) rfl (by kernel_rfl) (by kernel_rfl) (by kernel_rfl) (fun _ _ _ h => h) (Or.inl ⟨by rfl, ?_⟩) (by assumption) ?_
  rotate_left
  · (intro w hSw; (try dsimp only at hSw); go_simp; try with_reducible rfl)
  try simp only [Act.put, List.getElem_toArray, List.getElem_cons_zero, List.getElem_cons_succ, List.setIfInBounds_toArray, List.set_cons_zero, List.set_cons_succ]
  refine wpAnyH_done (by kernel_rfl) ?_ _
  replace M0 := Lib.hid (M0.out.below B1.out)
  replace HB := Lib.hid (below_then HB.out B1.out)
  clear c0 HC hHeld2 i0 i1 B1
  by_cases h1 : n = 1
  · have d0 : ((n : Int) == 1) = true := by simp [h1]
    have E : Hid (rexTxt (.mk (n : Int) s ks) = (kwn ++ [32]) ++ setTxt s) := by
      show _ = _
      have e1 : (n : Int) = 1 := by omega
      rw [HKW.out, HK0.out e1, e1]
      exact rexTxt_set s
    have n0 : w1.cell? ⟨w.heap.size, 0, none⟩ = some (.int .i64 (n : Int)) := by rw [M0.out.cell]; rfl
    have n1 : w1.cell? ⟨w.heap.size, 1, none⟩ = some (.slice A s.length c) := by rw [M0.out.cell]; rfl
    clear h1
    go_wp2_with fail
    rw [str_app kwn 32]
    obtain ⟨m, hm⟩ : ∃ m, m = kwn ++ [32] := ⟨_, rfl⟩
    have hml : m.length ≤ 6 := by rw [hm, List.length_append]; simp; omega
    have HM := Lib.hid hm
    rw [← hm]
    have hz1 := str_size m
    have hz2 := str_size (setTxt s)
    have hsl : (setTxt s).length ≤ 44 * s.length + 2 := by
      unfold setTxt
      split
      · simp
      · have := acc_len s H64.out s.length (Nat.le_refl _)
        rw [List.take_length] at this
        omega
    clear hm
    refine (sSetText_c A c s w1 (HS.out.below HB.out) H64.out (by omega)).mono ?_
    rintro e w2 ⟨rfl, b2⟩
    clear n0 n1
    go_wp2_with fail
    go_ret
    refine ⟨?_, below_then HB.out b2⟩
    rw [E.out, ← HM.out]
    exact congrArg (fun x => Ending.returned (Value.string x)) (str_append m (setTxt s))
  · have d0 : ((n : Int) == 1) = false := by simp; omega
    have E : Hid (rexTxt (.mk (n : Int) s ks) = kwn ++ kidTxts ks) := by
      show _ = _
      rw [HKW.out]
      exact rexTxt_kids (by omega) s ks
    have n0 : w1.cell? ⟨w.heap.size, 0, none⟩ = some (.int .i64 (n : Int)) := by rw [M0.out.cell]; rfl
    clear h1
    go_wp2_with fail
    clear n0 d0
    go_loopg [3, 4] ks.length (fun n' v3 v4 wr => ∃ j : Nat, j + n' = ks.length ∧ v4 = .int .i64 j ∧ ∃ acc : List UInt8, v3 = .string (str acc) ∧ Hid (acc = kwn ++ kidTxts (ks.take j)) ∧ Hid (Blk wr w.heap.size #[.int .i64 (n : Int), .slice A s.length c, .slice K ks.length ck] TRx) ∧ Hid (Below w.heap.size w wr))
    case atStart => exact ⟨0, by omega, rfl, kwn, rfl, by show _ = _; simp [kidTxts], M0, HB⟩
    case round =>
      clear M0 HB
      obtain ⟨j, hj, rfl, acc, rfl, HA, M0, HB⟩ := hrel
      have n2 : wr.cell? ⟨w.heap.size, 2, none⟩ = some (.slice K ks.length ck) := by rw [M0.out.cell]; rfl
      by_cases hlt : j < ks.length
      · obtain ⟨a, r, x1, x2, rfl, HX, HD, HV, c0, c1, c2⟩ := (HK.out.below HB.out).at_ j hlt
        obtain ⟨A2', q2, K2, d2, _, rfl, rfl, _⟩ := HV.out.parts
        have hmem := List.mem_of_getElem? HX.out
        have hks := sizeL_kid hmem
        have hkt := kidTxts_le ks j
        have hal : acc.length ≤ 100000000 := by have := HKL.out; rw [HA.out, List.length_append]; omega
        have htl : (rexTxt r).length ≤ 100000000 := by have := txt_len r (d - 1) (HFK.out r hmem); omega
        have hz1 := str_size acc
        have hz2 := str_size (rexTxt r)
        have i0 : (0 : Int) ≤ (j : Int) := by omega
        have i1 : (j : Int) < (ks.length : Int) := by omega
        go_wp2_with fail
        rw [str_app acc 32]
        obtain ⟨m, hm⟩ : ∃ m, m = acc ++ [32] := ⟨_, rfl⟩
        have hml : m.length ≤ 100000001 := by rw [hm, List.length_append]; simp; omega
        have HM := Lib.hid hm
        rw [← hm]
        have hz3 := str_size m
        clear hm
        refine (ih r hmem (d - 1) _ _ wr lo (HFK.out r hmem) HV.out (by omega)).mono ?_
        rintro e w2 ⟨rfl, b2⟩
        clear c0 c1 c2 n2
        go_wp2_with fail
        go_roundg (gk - 1)
        case measure => omega
        case rel =>
          refine ⟨j + 1, by omega, by go_num, m ++ rexTxt r, by rw [str_append], ?_, M0.out.below b2, below_then HB.out b2⟩
          show _ = _
          rw [HM.out, HA.out, kidTxts_take HX.out]
          simp
      · have hj' : j = ks.length := by omega
        subst hj'
        rw [List.take_length] at HA
        go_wp2_with fail
        go_ret
        exact ⟨by rw [E.out, ← HA.out]; rfl, HB.out⟩
set_option maxHeartbeats 1000000 in
theorem sRexText_c (r : Rex) (v1 v2 : Value) (w : World) (lo : Nat) (h : RexV w lo r (.int .i64 r.kind) v1 v2) (hsz : r.size ≤ 1048576) :
    Calls Tryd.prog 15 #[.agg #[.int .i64 r.kind, v1, v2]] w fun e w' => e = .returned (.string (str (rexText r))) ∧ Below w.heap.size w w' := by
  obtain ⟨A, c, K, ck, _, rfl, rfl, _, _⟩ := h.parts
  obtain ⟨wa, hwa⟩ : ∃ x, x = w.alloc (.cells #[.int .i64 r.kind, .slice A r.set.length c, .slice K r.kids.length ck] TRx) := ⟨_, rfl⟩
  have hb : Below w.heap.size w wa := by rw [hwa]; exact below_alloc (Below.refl _ _) _
  have m0 : Blk wa w.heap.size #[.int .i64 r.kind, .slice A r.set.length c, .slice K r.kids.length ck] TRx := by rw [hwa]; exact blk_new w _ _
  have HV := Lib.hid (h.under hb)
  have HB := Lib.hid hb
  have M0 := Lib.hid m0
  clear m0 h hb
  replace hwa := hwa.symm
  have n0 : wa.cell? ⟨w.heap.size, 0, none⟩ = some (.int .i64 r.kind) := by rw [M0.out.cell]; rfl
  have n0' : wa.cell? ⟨w.heap.size, 1, none⟩ = some (.slice A r.set.length c) := by rw [M0.out.cell]; rfl
  have n0'' : wa.cell? ⟨w.heap.size, 2, none⟩ = some (.slice K r.kids.length ck) := by rw [M0.out.cell]; rfl
  go_enter Tryd.func15, Tryd.ntmps15
  go_wp2_with fail
  clear hwa
  refine (sRexOk_c _ _ _ _ _ HV.out hsz).mono ?_
  rintro e w1 ⟨rfl, b1⟩
  replace M0 := Lib.hid (M0.out.below b1)
  have H1 := Lib.hid b1
  clear n0 n0' n0'' b1
  have n0 : w1.cell? ⟨w.heap.size, 0, none⟩ = some (.int .i64 r.kind) := by rw [M0.out.cell]; rfl
  have n0' : w1.cell? ⟨w.heap.size, 1, none⟩ = some (.slice A r.set.length c) := by rw [M0.out.cell]; rfl
  have n0'' : w1.cell? ⟨w.heap.size, 2, none⟩ = some (.slice K r.kids.length ck) := by rw [M0.out.cell]; rfl
  by_cases hf : rexOk r = true
  · have HF := Lib.hid hf
    rw [hf]
    clear hf
    go_wp2_with fail
    refine (sText_c r 8 _ _ w1 lo (rexOk_formed HF.out) (HV.out.under H1.out) hsz).mono ?_
    rintro e w2 ⟨rfl, b2⟩
    clear n0 n0' n0''
    go_wp2_with fail
    go_ret
    exact ⟨by rw [rexText, if_pos HF.out]; rfl, below_then HB.out (below_then H1.out b2)⟩
  · have HF := Lib.hid hf
    rw [show rexOk r = false by simpa using hf]
    clear hf
    go_wp2_with fail
    go_ret
    exact ⟨by rw [rexText, if_neg HF.out]; rfl, below_then HB.out H1.out⟩

end Go.Proofs.YtlchipjckgaclaaDoor

/-
  DERIVED: THE SHELF's CONTRACTS AT THIS DUMP, IN PLAIN WORDS (tools/lay-plain.mjs out of 'TrydShelf.lean', which tools/lay-shelf.mjs wrote): THE SAME DECLARATIONS UNDER THE SAME NAMES: 'import', 'namespace', 'open', 'def', 'theorem' AND NOTHING ELSE: no command of the shelf's: FOR A HAND-IN. Each laying: the table of numbers ('.._ren') and one theorem, a field a fact of the dump's own or the kernel's comparison; each contract: ONE APPLICATION.
-/
namespace Go.Proofs
open Go.Shelf
def Tryd.lays145_ren : Go.Shelf.Ren := ⟨fun | 145 => 64 | 220 => 89 | 219 => 101 | 217 => 114 | 225 => 115 | 224 => 116 | 267 => 117 | 266 => 124 | 314 => 125 | n => n, fun | 9 => 9 | 4 => 4 | 59 => 79 | 3 => 3 | 5 => 5 | 46 => 130 | 146 => 137 | 51 => 133 | n => n, fun | 1 => 0 | n => n⟩
theorem Tryd.lays145 : Go.Proofs.Lays.n145 Tryd.prog Tryd.lays145_ren := {
  mixed := by kernel_rfl
  f145 := Tryd.func64.trans (congrArg some (by kernel_rfl))
  f217 := Tryd.func114.trans (congrArg some (by kernel_rfl))
  f219 := Tryd.func101.trans (congrArg some (by kernel_rfl))
  f220 := Tryd.func89.trans (congrArg some (by kernel_rfl))
  f224 := Tryd.func116.trans (congrArg some (by kernel_rfl))
  f225 := Tryd.func115.trans (congrArg some (by kernel_rfl))
  f266 := Tryd.func124.trans (congrArg some (by kernel_rfl))
  f267 := Tryd.func117.trans (congrArg some (by kernel_rfl))
  f314 := Tryd.func125.trans (congrArg some (by kernel_rfl))
  t3 := Tryd.underlying3
  a3 := Tryd.isAgg3
  z3 := Tryd.sizeOf3
  v3 := Tryd.zeroValue3
  t4 := Tryd.underlying4
  a4 := Tryd.isAgg4
  z4 := Tryd.sizeOf4
  v4 := Tryd.zeroValue4
  t5 := Tryd.underlying5
  a5 := Tryd.isAgg5
  z5 := Tryd.sizeOf5
  v5 := Tryd.zeroValue5
  t9 := Tryd.underlying9
  a9 := Tryd.isAgg9
  z9 := Tryd.sizeOf9
  v9 := Tryd.zeroValue9
  t46 := Tryd.underlying130
  a46 := Tryd.isAgg130
  z46 := Tryd.sizeOf130
  v46 := Tryd.zeroValue130
  t51 := Tryd.underlying133
  a51 := Tryd.isAgg133
  z51 := Tryd.sizeOf133
  v51 := Tryd.zeroValue133
  t59 := Tryd.underlying79
  a59 := Tryd.isAgg79
  z59 := Tryd.sizeOf79
  v59 := Tryd.zeroValue79
  t146 := Tryd.underlying137
  a146 := Tryd.isAgg137
  z146 := Tryd.sizeOf137
  v146 := Tryd.zeroValue137
  g1 := by kernel_rfl }
open Go.RowKit Go.Lib in
/-- strings.Cut: "Cut slices s around the first instance of sep, returning the text before and after sep. The found result reports whether sep appears in s. If sep does not appear in s, cut returns s, "", false.": IT RETURNS 'Lib.cut s sep'; the world is as it was but for the count of draws. (LAID: no walk: one application.) -/
theorem Tryd.strings_Cut (s sep : ByteArray) (m : Int) (w : World) (hs : s.size < 4294967281) (hm : w.cell? ⟨0, 0, none⟩ = some (.int .i64 m)) :
    Calls Tryd.prog 64 #[.string s, .string sep] w fun e w' => e = .returned (.tuple #[.string ⟨(Lib.cut s.data.toList sep.data.toList).1.toArray⟩, .string ⟨(Lib.cut s.data.toList sep.data.toList).2.1.toArray⟩, .bool (Lib.cut s.data.toList sep.data.toList).2.2]) ∧ ∃ n, w' = w.drewN n := Any.strings_Cut Tryd.lays145 s sep m w hs hm
def Tryd.lays146_ren : Go.Shelf.Ren := ⟨fun | 146 => 63 | 221 => 88 | 268 => 98 | 138 => 99 | 143 => 100 | 195 => 111 | 197 => 112 | 218 => 113 | 219 => 101 | 260 => 123 | 217 => 114 | 225 => 115 | 224 => 116 | 267 => 117 | 266 => 124 | 314 => 125 | n => n, fun | 9 => 9 | 31 => 63 | 3 => 3 | 4 => 4 | 0 => 0 | 105 => 128 | 21 => 21 | 5 => 5 | 46 => 130 | 119 => 140 | 139 => 143 | 138 => 142 | 146 => 137 | 51 => 133 | n => n, fun | 1 => 0 | 3 => 2 | 4 => 3 | n => n⟩
theorem Tryd.lays146 : Go.Proofs.Lays.n146 Tryd.prog Tryd.lays146_ren := {
  mixed := by kernel_rfl
  f138 := Tryd.func99.trans (congrArg some (by kernel_rfl))
  f143 := Tryd.func100.trans (congrArg some (by kernel_rfl))
  f146 := Tryd.func63.trans (congrArg some (by kernel_rfl))
  f195 := Tryd.func111.trans (congrArg some (by kernel_rfl))
  f197 := Tryd.func112.trans (congrArg some (by kernel_rfl))
  f217 := Tryd.func114.trans (congrArg some (by kernel_rfl))
  f218 := Tryd.func113.trans (congrArg some (by kernel_rfl))
  f219 := Tryd.func101.trans (congrArg some (by kernel_rfl))
  f221 := Tryd.func88.trans (congrArg some (by kernel_rfl))
  f224 := Tryd.func116.trans (congrArg some (by kernel_rfl))
  f225 := Tryd.func115.trans (congrArg some (by kernel_rfl))
  f260 := Tryd.func123.trans (congrArg some (by kernel_rfl))
  f266 := Tryd.func124.trans (congrArg some (by kernel_rfl))
  f267 := Tryd.func117.trans (congrArg some (by kernel_rfl))
  f268 := Tryd.func98.trans (congrArg some (by kernel_rfl))
  f314 := Tryd.func125.trans (congrArg some (by kernel_rfl))
  t0 := Tryd.underlying0
  a0 := Tryd.isAgg0
  z0 := Tryd.sizeOf0
  v0 := Tryd.zeroValue0
  t3 := Tryd.underlying3
  a3 := Tryd.isAgg3
  z3 := Tryd.sizeOf3
  v3 := Tryd.zeroValue3
  t4 := Tryd.underlying4
  a4 := Tryd.isAgg4
  z4 := Tryd.sizeOf4
  v4 := Tryd.zeroValue4
  t5 := Tryd.underlying5
  a5 := Tryd.isAgg5
  z5 := Tryd.sizeOf5
  v5 := Tryd.zeroValue5
  t9 := Tryd.underlying9
  a9 := Tryd.isAgg9
  z9 := Tryd.sizeOf9
  v9 := Tryd.zeroValue9
  t21 := Tryd.underlying21
  a21 := Tryd.isAgg21
  z21 := Tryd.sizeOf21
  v21 := Tryd.zeroValue21
  t31 := Tryd.underlying63
  a31 := Tryd.isAgg63
  z31 := Tryd.sizeOf63
  v31 := Tryd.zeroValue63
  t46 := Tryd.underlying130
  a46 := Tryd.isAgg130
  z46 := Tryd.sizeOf130
  v46 := Tryd.zeroValue130
  t51 := Tryd.underlying133
  a51 := Tryd.isAgg133
  z51 := Tryd.sizeOf133
  v51 := Tryd.zeroValue133
  t105 := Tryd.underlying128
  a105 := Tryd.isAgg128
  z105 := Tryd.sizeOf128
  v105 := Tryd.zeroValue128
  t119 := Tryd.underlying140
  a119 := Tryd.isAgg140
  z119 := Tryd.sizeOf140
  t138 := Tryd.underlying142
  a138 := Tryd.isAgg142
  z138 := Tryd.sizeOf142
  v138 := Tryd.zeroValue142
  t139 := Tryd.underlying143
  a139 := Tryd.isAgg143
  z139 := Tryd.sizeOf143
  v139 := Tryd.zeroValue143
  t146 := Tryd.underlying137
  a146 := Tryd.isAgg137
  z146 := Tryd.sizeOf137
  v146 := Tryd.zeroValue137
  g1 := by kernel_rfl
  g3 := by kernel_rfl
  g4 := by kernel_rfl }
open Go.RowKit Go.Lib in
/-- strings.Split. (LAID: no walk: one application.) -/
theorem Tryd.strings_Split (s sep : ByteArray) (m : Int) (w : World) (hs : s.size < 4294967281) (hm : w.cell? ⟨0, 0, none⟩ = some (.int .i64 m)) (h1 : 1 ≤ sep.size) :
    Calls Tryd.prog 63 #[.string s, .string sep] w fun e w' =>
      e = .returned (.slice (some ⟨w.heap.size, 0, none⟩) (Lib.countB s sep + 1) (Lib.countB s sep + 1)) ∧ w' = w.alloc (.cells ((Lib.splitB sep 0 (Lib.countB s sep) s).map Value.string).toArray 9) := Any.strings_Split Tryd.lays146 (by kernel_rfl) s sep m w hs hm h1
end Go.Proofs

/- Texts cut into words: strings.Split and strings.Cut of the shelf, l15Cut and l15Find of the reference. -/
namespace Go.Proofs.YtlchipjckgaclaaDoor
set_option linter.unusedSimpArgs false
set_option linter.unusedVariables false
set_option maxRecDepth 100000
open Go.RowKit

abbrev strsV (ws : List (List UInt8)) : List Value := ws.map fun l => .string (str l)
theorem str_of (t : ByteArray) : str t.data.toList = t := ByteArray.ext (by simp [str])
theorem str_inj {a b : List UInt8} (h : str a = str b) : a = b := by
  have := congrArg (fun t : ByteArray => t.data.toList) h
  simpa [str] using this
theorem str_data (a : List UInt8) : (str a).data.toList = a := by simp [str]
theorem ext_str (t : ByteArray) (a b : Nat) : t.extract a b = str ((t.data.toList.take b).drop a) := by
  rw [← str_of (t.extract a b)]
  congr 1
  rw [ByteArray.data_extract, Array.toList_extract]
  rw [List.extract_eq_take_drop, List.drop_take]
theorem own_empty_str (w : World) : (w.alloc (.cells #[] TStr)).ownsRow w.heap.size TStr 1 (.slice (some ⟨w.heap.size, 0, none⟩) 0 0) 0 (strsV []) :=
  own_of_blk (cs := []) (n := 0) (blk_new w #[] TStr) (by simp) (Nat.le_refl _) (by decide)

/-! ### the program's -/
theorem split_vals (t : ByteArray) (c : UInt8) : (Lib.splitB ⟨#[c]⟩ 0 (Lib.countB t ⟨#[c]⟩) t).map Value.string = strsV (cutAt c t.data.toList) := by
  have h := Lib.splitB_data ⟨#[c]⟩ 0 (Lib.countB t ⟨#[c]⟩) t
  have h2 : (Lib.splitB ⟨#[c]⟩ 0 (Lib.countB t ⟨#[c]⟩) t).map (·.data.toList) = cutAt c t.data.toList := h.trans (split_cut c _)
  rw [strsV, ← h2, List.map_map]
  exact List.map_congr_left fun x _ => by simp [str_of]
theorem split_len (t : ByteArray) (c : UInt8) : Lib.countB t ⟨#[c]⟩ + 1 = (cutAt c t.data.toList).length := by
  have h := Lib.splitB_all ⟨#[c]⟩ (Nat.le_refl _) 0 _ t rfl
  have h2 := congrArg List.length (split_vals t c)
  rw [List.length_map, List.length_map, h] at h2
  exact h2
theorem iSplit_c (t : ByteArray) (c : UInt8) (m : Int) (w : World) (hs : t.size ≤ 1048576) (hm : w.cell? ⟨0, 0, none⟩ = some (.int .i64 m)) :
    Calls Tryd.prog 63 #[.string t, .string ⟨#[c]⟩] w fun e w' => ∃ g, e = .returned (.slice (some ⟨g, 0, none⟩) (cutAt c t.data.toList).length (cutAt c t.data.toList).length) ∧ w'.ownsRow w.heap.size TStr 1 (.slice (some ⟨g, 0, none⟩) (cutAt c t.data.toList).length (cutAt c t.data.toList).length) (cutAt c t.data.toList).length (strsV (cutAt c t.data.toList)) ∧ Below w.heap.size w w' :=
  (Tryd.strings_Split t ⟨#[c]⟩ m w (by omega) hm (Nat.le_refl _)).mono fun e w' ⟨h1, h2⟩ => by
    rw [split_vals] at h2
    have hl := split_len t c
    have hc := cutAt_len c t.data.toList
    rw [bytes_len] at hc
    refine ⟨w.heap.size, ?_, ?_, by rw [h2]; exact below_alloc (Below.refl _ _) _⟩
    · rw [h1, ← hl]; first | done | rfl | simp
    · rw [h2]
      exact own_of_blk (cs := strsV (cutAt c t.data.toList)) (blk_new w _ TStr) (by simp [strsV]) (Nat.le_refl _) (by unfold maxLen; omega)
def cutV (t : ByteArray) (c : UInt8) : Value :=
  if Lib.indexByte t.data.toList c < 0 then .tuple #[.string t, .string (str []), .bool false]
  else .tuple #[.string (str (t.data.toList.take (Lib.indexByte t.data.toList c).toNat)), .string (str (t.data.toList.drop ((Lib.indexByte t.data.toList c).toNat + 1))), .bool true]
theorem iCut_c (t : ByteArray) (c : UInt8) (m : Int) (w : World) (hs : t.size ≤ 1048576) (hm : w.cell? ⟨0, 0, none⟩ = some (.int .i64 m)) :
    Calls Tryd.prog 64 #[.string t, .string ⟨#[c]⟩] w fun e w' => e = .returned (cutV t c) ∧ Below w.heap.size w w' :=
  (Tryd.strings_Cut t ⟨#[c]⟩ m w (by omega) hm).mono fun e w' ⟨h1, n, h2⟩ => by
    refine ⟨?_, by rw [h2]; exact below_drewN (Below.refl _ _) n⟩
    rw [h1]
    have hi : Lib.index t.data.toList [c] = Lib.indexByte t.data.toList c := Lib.index_one _ _
    show Ending.returned (.tuple #[.string ⟨(Lib.cut t.data.toList [c]).1.toArray⟩, .string ⟨(Lib.cut t.data.toList [c]).2.1.toArray⟩, .bool (Lib.cut t.data.toList [c]).2.2]) = _
    unfold cutV Lib.cut
    rw [hi]
    by_cases h : Lib.indexByte t.data.toList c < 0
    · rw [if_neg (by omega), if_pos h]
      rfl
    · rw [if_pos (by omega), if_neg h]
      rfl

/-! ### the reference's -/
set_option maxHeartbeats 1000000 in
theorem sFind_c (t : ByteArray) (c : UInt8) (w : World) (hs : t.size ≤ 1048576) :
    Calls Tryd.prog 61 #[.string t, .int .u8 (c.toNat : Int)] w fun e w' => e = .returned (.int .i64 (Lib.indexByte t.data.toList c)) ∧ w = w' := by
  have HL := Lib.hid (bytes_len t)
  go_enter Tryd.func61, Tryd.ntmps61
  go_wp2_with fail
  go_loopg [5] t.size (fun n v5 wr => ∃ i : Nat, i + n = t.size ∧ v5 = .int .i64 i ∧ Hid (c ∉ t.data.toList.take i) ∧ w = wr)
  case atStart => exact ⟨0, by omega, rfl, by show c ∉ _; simp, rfl⟩
  case round =>
    obtain ⟨i, hi, rfl, HN, rfl⟩ := hrel
    by_cases hlt : i < t.size
    · have i0 : (0 : Int) ≤ (i : Int) := by omega
      have i1 : (i : Int) < (t.size : Int) := by omega
      have HBI := Lib.hid (bytes_get hlt)
      by_cases he : t[i] = c
      · have e0 : ((t[i].toNat : Int) == (c.toNat : Int)) = true := by rw [he]; simp
        have E : Hid (Lib.indexByte t.data.toList c = (i : Int)) := by
          show _ = _
          have h1 : t.data.toList = t.data.toList.take i ++ c :: t.data.toList.drop (i + 1) := by
            have h2 : i < t.data.toList.length := by rw [HL.out]; exact hlt
            have h3 : t.data.toList[i] = c := by
              have := HBI.out
              rw [List.getElem?_eq_getElem h2, he] at this
              injection this
            rw [← h3, ← List.drop_eq_getElem_cons h2, List.take_append_drop]
          rw [h1, at_app _ HN.out, List.length_take, HL.out]
          omega
        clear he
        go_wp2_with fail
        go_ret
        exact ⟨by rw [E.out]; rfl, rfl⟩
      · have e0 : ((t[i].toNat : Int) == (c.toNat : Int)) = false := by
          rw [beq_eq_false_iff_ne]
          intro h
          exact he (UInt8.toNat_inj.1 (by omega))
        have HE := Lib.hid he
        clear he
        go_wp2_with fail
        go_roundg (gk - 1)
        case measure => omega
        case rel =>
          refine ⟨i + 1, by omega, by go_num, ?_, rfl⟩
          show c ∉ _
          rw [List.take_add_one, HBI.out]
          simp only [Option.toList_some, List.mem_append, List.mem_singleton]
          rintro (h | h)
          · exact HN.out h
          · exact HE.out h.symm
    · have E : Hid (Lib.indexByte t.data.toList c = -1) := at_none (by
        have := HN.out
        rwa [List.take_of_length_le (by rw [HL.out]; omega)] at this)
      go_wp2_with fail
      go_ret
      exact ⟨by rw [E.out]; rfl, rfl⟩

def CutSt (c : UInt8) (l : List UInt8) (i fr : Nat) (ws : List (List UInt8)) : Prop :=
  fr ≤ i ∧ ws.length ≤ i ∧ (i ≤ l.length → cutAt c l = ws ++ cutAt c (l.drop fr) ∧ c ∉ (l.take i).drop fr) ∧ (i = l.length + 1 → ws = cutAt c l)
theorem CutSt.start (c : UInt8) (l : List UInt8) : CutSt c l 0 0 [] := ⟨Nat.le_refl _, Nat.le_refl _, fun _ => ⟨rfl, by simp⟩, fun h => by omega⟩
theorem take_drop_snoc {l : List UInt8} {i fr : Nat} {b : UInt8} (hf : fr ≤ i) (h : l[i]? = some b) : (l.take (i + 1)).drop fr = (l.take i).drop fr ++ [b] := by
  have hi := (List.getElem?_eq_some_iff.1 h).1
  rw [List.take_add_one, h, List.drop_append_of_le_length (by rw [List.length_take]; omega)]
  rfl
theorem CutSt.no {c b : UInt8} {l : List UInt8} {i fr : Nat} {ws : List (List UInt8)} (h : CutSt c l i fr ws) (hb : l[i]? = some b) (hn : b ≠ c) : CutSt c l (i + 1) fr ws := by
  have hi := (List.getElem?_eq_some_iff.1 hb).1
  obtain ⟨h1, h2, h3, _⟩ := h
  refine ⟨by omega, by omega, fun _ => ⟨(h3 (by omega)).1, ?_⟩, fun h => by omega⟩
  rw [take_drop_snoc h1 hb]
  intro hm
  rcases List.mem_append.1 hm with hm | hm
  · exact (h3 (by omega)).2 hm
  · exact hn (List.mem_singleton.1 hm).symm
theorem drop_take_drop {l : List UInt8} {i fr : Nat} (hf : fr ≤ i) : l.drop fr = (l.take i).drop fr ++ l.drop i := by
  conv => lhs; rw [← List.take_append_drop i l]
  rcases Nat.le_total i l.length with h | h
  · rw [List.drop_append_of_le_length (by rw [List.length_take]; omega)]
  · rw [List.take_of_length_le h, List.drop_of_length_le h, List.append_nil, List.append_nil]
theorem CutSt.hit {c : UInt8} {l : List UInt8} {i fr : Nat} {ws : List (List UInt8)} (h : CutSt c l i fr ws) (hb : l[i]? = some c) : CutSt c l (i + 1) (i + 1) (ws ++ [(l.take i).drop fr]) := by
  have hi := (List.getElem?_eq_some_iff.1 hb).1
  obtain ⟨h1, h2, h3, _⟩ := h
  obtain ⟨h4, h5⟩ := h3 (by omega)
  have hd : l.drop i = c :: l.drop (i + 1) := by rw [List.drop_eq_getElem_cons hi]; congr 1; rw [List.getElem?_eq_getElem hi] at hb; injection hb
  refine ⟨Nat.le_refl _, by simp; omega, fun _ => ⟨?_, by rw [List.drop_of_length_le (by rw [List.length_take]; omega)]; simp⟩, fun h => by omega⟩
  rw [h4, drop_take_drop h1, hd, cutAt_app _ h5]
  simp
theorem CutSt.fin {c : UInt8} {l : List UInt8} {i fr : Nat} {ws : List (List UInt8)} (h : CutSt c l i fr ws) (hb : i = l.length) : CutSt c l (i + 1) (i + 1) (ws ++ [(l.take i).drop fr]) := by
  obtain ⟨h1, h2, h3, _⟩ := h
  obtain ⟨h4, h5⟩ := h3 (by omega)
  refine ⟨Nat.le_refl _, by simp; omega, fun h => by omega, fun _ => ?_⟩
  have hd : l.drop fr = (l.take i).drop fr := by rw [drop_take_drop h1, List.drop_of_length_le (Nat.le_of_eq hb.symm), List.append_nil]
  rw [h4, hd, cutAt_no h5]

set_option maxHeartbeats 2000000 in
theorem sCut_c (t : ByteArray) (c : UInt8) (w : World) (hs : t.size ≤ 1048576) :
    Calls Tryd.prog 60 #[.string t, .int .u8 (c.toNat : Int)] w fun e w' => ∃ A d, e = .returned (.slice A (cutAt c t.data.toList).length d) ∧ w'.ownsRow w.heap.size TStr 1 (.slice A (cutAt c t.data.toList).length d) (cutAt c t.data.toList).length (strsV (cutAt c t.data.toList)) ∧ Below w.heap.size w w' := by
  have HL := Lib.hid (bytes_len t)
  obtain ⟨iS, hiS, hzS0, hzS1, hzS2⟩ := info_parts infoStr
  have HO0 := Lib.hid (own_empty_str w)
  have HB0 := Lib.hid (below_alloc (Below.refl w.heap.size w) (.cells #[] TStr))
  go_enter Tryd.func60, Tryd.ntmps60
  go_wp2_with fail
  go_loopg [5, 6, 7] (t.size + 1) (fun n v5 v6 v7 wr => ∃ i fr : Nat, i + n = t.size + 1 ∧ v7 = .int .i64 i ∧ v6 = .int .i64 fr ∧ ∃ (ws : List (List UInt8)) (A2 : Option Addr) (c2 : Nat), v5 = .slice A2 ws.length c2 ∧ Hid (CutSt c t.data.toList i fr ws) ∧ Hid (wr.ownsRow w.heap.size TStr 1 (.slice A2 ws.length c2) ws.length (strsV ws)) ∧ Hid (Below w.heap.size w wr))
  case atStart => exact ⟨0, 0, by omega, rfl, rfl, [], _, _, rfl, CutSt.start _ _, HO0, HB0⟩
  case round =>
    clear HO0 HB0
    obtain ⟨i, fr, hi, rfl, rfl, ws, A2, c2, rfl, HC, HO, HB⟩ := hrel
    have f0 : fr ≤ i := HC.out.1
    have f1 : ws.length ≤ i := HC.out.2.1
    by_cases hlt : i ≤ t.size
    · have i0 : (0 : Int) ≤ (i : Int) := by omega
      have i2 : (i : Int) ≤ (t.size : Int) := by omega
      have hn1 : ws.length + 1 ≤ maxLen := by unfold maxLen; omega
      have hn2 : (ws.length + 1) * 16 ≤ 140737488355328 := by omega
      have hn3 := HB.out.size
      by_cases hend : i = t.size
      · have e0 : ((i : Int) == (t.size : Int)) = true := by rw [hend]; simp
        have HC2 := Lib.hid (HC.out.fin (by rw [HL.out]; exact hend))
        clear hend
        go_wp2_with (at_builtin; refine wpList_append_row (by rfl) (.tmp 26) (.tmp 31) 63 (by rfl) w.heap.size TStr iS (.string ⟨#[]⟩) 1 16 Tryd.underlying63 hiS hzS0 hzS1 hzS2 rfl (by decide) (.slice A2 ws.length c2) ws.length (strsV ws) (by rfl) (own_below HO.out (below_alloc (Below.refl _ _) _)) (some ⟨wr.heap.size, 0, none⟩) 1 1 [.string (t.extract fr i)] (by rfl) (.inr ⟨⟨wr.heap.size, 0, none⟩, rfl, Nat.zero_le _, new_cells wr [.string (t.extract fr i)] TStr⟩) rfl (fun u hu => by rw [List.mem_singleton.1 hu]; rfl) hn1 hn2 (by simp; omega) _ rfl (ws.length + 1) rfl ?_; intro A5 c5 wE hown hgrow hat; have HE := Lib.hid hown; have BE := Lib.hid ((below_alloc HB.out _).grown hgrow (by simp; omega) (fun q hq => (own_base HO.out q hq).1)); clear hown hgrow hat)
        go_roundg (gk - 1)
        case measure => omega
        case rel =>
          refine ⟨i + 1, i + 1, by omega, by go_num, by go_num, ws ++ [(t.data.toList.take i).drop fr], A5, c5, ?_, HC2, ?_, BE⟩
          · rw [List.length_append]; rfl
          · show World.ownsRow _ _ _ _ _ _ _
            have e : strsV (ws ++ [(t.data.toList.take i).drop fr]) = strsV ws ++ [.string (t.extract fr i)] := by rw [ext_str]; simp [strsV]
            rw [e, List.length_append]
            exact HE.out
      · have e0 : ((i : Int) == (t.size : Int)) = false := by rw [beq_eq_false_iff_ne]; omega
        have i1 : (i : Int) < (t.size : Int) := by omega
        have hlt2 : i < t.size := by omega
        have HBI := Lib.hid (bytes_get hlt2)
        by_cases he : t[i] = c
        · have e1 : ((t[i].toNat : Int) == (c.toNat : Int)) = true := by rw [he]; simp
          have HC2 := Lib.hid (HC.out.hit (by rw [HBI.out, he]))
          clear he hend
          go_wp2_with (at_builtin; refine wpList_append_row (by rfl) (.tmp 26) (.tmp 31) 63 (by rfl) w.heap.size TStr iS (.string ⟨#[]⟩) 1 16 Tryd.underlying63 hiS hzS0 hzS1 hzS2 rfl (by decide) (.slice A2 ws.length c2) ws.length (strsV ws) (by rfl) (own_below HO.out (below_alloc (Below.refl _ _) _)) (some ⟨wr.heap.size, 0, none⟩) 1 1 [.string (t.extract fr i)] (by rfl) (.inr ⟨⟨wr.heap.size, 0, none⟩, rfl, Nat.zero_le _, new_cells wr [.string (t.extract fr i)] TStr⟩) rfl (fun u hu => by rw [List.mem_singleton.1 hu]; rfl) hn1 hn2 (by simp; omega) _ rfl (ws.length + 1) rfl ?_; intro A5 c5 wE hown hgrow hat; have HE := Lib.hid hown; have BE := Lib.hid ((below_alloc HB.out _).grown hgrow (by simp; omega) (fun q hq => (own_base HO.out q hq).1)); clear hown hgrow hat)
          go_roundg (gk - 1)
          case measure => omega
          case rel =>
            refine ⟨i + 1, i + 1, by omega, by go_num, by go_num, ws ++ [(t.data.toList.take i).drop fr], A5, c5, ?_, HC2, ?_, BE⟩
            · rw [List.length_append]; rfl
            · show World.ownsRow _ _ _ _ _ _ _
              have e : strsV (ws ++ [(t.data.toList.take i).drop fr]) = strsV ws ++ [.string (t.extract fr i)] := by rw [ext_str]; simp [strsV]
              rw [e, List.length_append]
              exact HE.out
        · have e1 : ((t[i].toNat : Int) == (c.toNat : Int)) = false := by
            rw [beq_eq_false_iff_ne]
            intro h
            exact he (UInt8.toNat_inj.1 (by omega))
          have HC2 := Lib.hid (HC.out.no HBI.out he)
          clear he hend
          go_wp2_with fail
          go_roundg (gk - 1)
          case measure => omega
          case rel => exact ⟨i + 1, fr, by omega, by go_num, rfl, ws, A2, c2, rfl, HC2, HO, HB⟩
    · have hw : ws = cutAt c t.data.toList := HC.out.2.2.2 (by rw [HL.out]; omega)
      subst hw
      go_wp2_with fail
      go_ret
      exact ⟨_, _, rfl, HO.out, HB.out⟩

end Go.Proofs.YtlchipjckgaclaaDoor

/- same, the two SetSame, the two MatchWord. -/
namespace Go.Proofs.YtlchipjckgaclaaDoor
set_option linter.unusedSimpArgs false
set_option linter.unusedVariables false
set_option maxRecDepth 100000
open Go.RowKit

theorem uSp : Tryd.prog.underlying TSp = some (.struct (Tryd.prog.fieldsOf TSp)) := by kernel_rfl
theorem sSp : Tryd.prog.stoodInHeld TSp = false := by kernel_rfl
theorem gSp : Tryd.prog.eqGuardType Tryd.prog.depth TSp = false := by kernel_rfl
theorem fSp : (Tryd.prog.fieldsOf TSp).toList.map (fun f => (f.name == "_", f.type, f.offset)) = [(false, 3, 0), (false, 3, 1)] := by kernel_rfl
theorem neqSp (x y : Sp) (w : World) : (binOp .neq TSp (.agg #[.int .i64 x.lo, .int .i64 x.hi]) (.agg #[.int .i64 y.lo, .int .i64 y.hi])).run Tryd.prog w = .ok (.bool (!decide (x = y))) w := by
  rw [run_neq_struct, run_equalIn_struct (P := Tryd.prog) w 9999 TSp _ _ uSp sSp]
  have hf := fSp
  generalize (Tryd.prog.fieldsOf TSp).toList = l at hf
  obtain ⟨f0, f1, rfl⟩ : ∃ f0 f1, l = [f0, f1] := by
    have := congrArg List.length hf
    rw [List.length_map] at this
    rcases l with _ | ⟨f0, _ | ⟨f1, _ | ⟨f2, l⟩⟩⟩ <;> simp at this
    exact ⟨f0, f1, rfl⟩
  · simp only [List.map_cons, List.map_nil, List.cons.injEq, Prod.mk.injEq, and_true] at hf
    obtain ⟨⟨n0, t0, o0⟩, n1, t1, o1⟩ := hf
    have n0' : ¬ f0.name = "_" := by simpa using n0
    have n1' : ¬ f1.name = "_" := by simpa using n1
    have p0 : ∀ a b : Int, (part 3 #[.int .i64 a, .int .i64 b] 0).run Tryd.prog w = .ok (.int .i64 a) w := by
      intro a b
      kernel_rfl
    have p1 : ∀ a b : Int, (part 3 #[.int .i64 a, .int .i64 b] 1).run Tryd.prog w = .ok (.int .i64 b) w := by
      intro a b
      kernel_rfl
    have q : ∀ a b : Int, (Op.equalIn 9999 3 (.int .i64 a) (.int .i64 b)).run Tryd.prog w = .ok (a == b) w := fun a b => run_equalIn_int w 9998 _ _ .i64 a b Tryd.underlying3
    simp only [Op.eqFields, ne_eq, n0', n1', not_false_eq_true, if_true, Sem.run_bind, t0, t1, o0, o1, p0, p1, q, Result.andThen_ok]
    by_cases c0 : x.lo = y.lo
    · by_cases c1 : x.hi = y.hi
      · have e : x = y := by cases x; cases y; simp at c0 c1; rw [c0, c1]
        subst e
        simp [p1, q]
      · have e : x ≠ y := by rintro rfl; exact c1 rfl
        simp [c0, c1, e, p1, q]
    · have e : x ≠ y := by rintro rfl; exact c0 rfl
      simp [c0, e]

set_option maxHeartbeats 1000000 in
theorem same_c (A B : Option Addr) (c d : Nat) (xs ys : List Sp) (w : World) {lo lo' : Nat} (h : Sps w lo A c xs) (h' : Sps w lo' B d ys) :
    Calls Tryd.prog 53 #[.slice A xs.length c, .slice B ys.length d] w fun e w' => e = .returned (.bool (decide (xs = ys))) ∧ Drawn w w' := by
  have hlen := h.len
  have hlen' := h'.len
  unfold maxN at hlen hlen'
  by_cases he : xs.length = ys.length
  · have b1 : ((xs.length : Int) != (ys.length : Int)) = false := by simp [he]
    have HE : Hid (xs.length = ys.length) := he
    clear he
    go_enter Tryd.func53, Tryd.ntmps53
    go_wp2
    go_loopg [13] (xs.length) (fun n i wr => ∃ k : Nat, k + n = xs.length ∧ i = .int .i64 k ∧ Hid (decide (xs.drop k = ys.drop k) = decide (xs = ys)) ∧ Drawn w wr)
    case atStart => exact ⟨0, by omega, rfl, by rw [List.drop_zero, List.drop_zero]; rfl, Drawn.refl _⟩
    case round =>
      obtain ⟨k, hk, rfl, HS, m, rfl⟩ := hrel
      by_cases hlt : k < xs.length
      · have hlt' : k < ys.length := by have := HE.out; omega
        obtain ⟨a, x, rfl, _, HD, h0, h1⟩ := h.at_ k hlt
        obtain ⟨a', y, rfl, _, HD', h0', h1'⟩ := h'.at_ k hlt'
        have ST : Hid _ := drop_eq_step HD.out HD'.out HS.out
        have N0 := fun wx => neqSp x y wx
        have N1 := gSp
        go_wp2
        go_quiet (fail)
        go_wp2
        · go_ret
          exact ⟨ret_bool (ST.out.1 (by simpa using ‹(!decide (x = y)) = true›)).symm, drewN_drewN _ _ _⟩
        · go_roundg (gk - 1)
          case rel => exact ⟨k + 1, by omega, by go_num, ST.out.2 (by simpa using ‹(!decide (x = y)) = false›), ⟨_, rfl⟩⟩
          case measure => omega
      · go_wp2
        go_ret
        exact ⟨ret_bool (by rw [← HS.out, List.drop_of_length_le (by omega), List.drop_of_length_le (by have := HE.out; omega)]; rfl), _, rfl⟩
  · have b1 : ((xs.length : Int) != (ys.length : Int)) = true := by simp; omega
    have b2 : (xs.length == ys.length) = false := by simp [he]
    have C : Hid (decide (xs = ys) = false) := decide_eq_false (by rintro rfl; exact he rfl)
    clear he
    go_enter Tryd.func53, Tryd.ntmps53
    go_wp2
    go_ret
    exact ⟨ret_bool C.out.symm, Drawn.refl _⟩

end Go.Proofs.YtlchipjckgaclaaDoor

/- Sets as 256 bits in memory. -/
namespace Go.Proofs.YtlchipjckgaclaaDoor
set_option linter.unusedSimpArgs false
set_option linter.unusedVariables false
set_option maxRecDepth 100000
open Go.RowKit

/-! ### 256 bits -/
def bitCells (f : Nat → Bool) : List Value := (List.range 256).map fun i => .bool (f i)
theorem bitCells_length (f : Nat → Bool) : (bitCells f).length = 256 := by simp [bitCells]
theorem bitCells_get (f : Nat → Bool) (i : Nat) (h : i < 256) : (bitCells f)[i]? = some (.bool (f i)) := by simp [bitCells, h]
theorem bitCells_congr {f g : Nat → Bool} (h : ∀ i, i < 256 → f i = g i) : bitCells f = bitCells g := by
  unfold bitCells
  exact List.map_congr_left fun i hi => by rw [h i (List.mem_range.1 hi)]
theorem bitCells_set (f : Nat → Bool) (k : Nat) (b : Bool) : (bitCells f).set k (.bool b) = bitCells fun i => if i = k then b else f i := by
  apply List.ext_getElem?
  intro j
  rw [List.getElem?_set]
  by_cases hj : j < 256
  · have e := bitCells_get (fun i => if i = k then b else f i) _ hj
    rw [e, bitCells_length]
    by_cases hk : k = j
    · subst hk
      simp [hj]
    · rw [if_neg hk, bitCells_get _ _ hj, if_neg (fun e => hk e.symm)]
  · rw [List.getElem?_eq_none (by rw [bitCells_length]; omega : (bitCells fun i => if i = k then b else f i).length ≤ j), bitCells_length, List.getElem?_eq_none (by rw [bitCells_length]; omega : (bitCells f).length ≤ j)]
    split
    · rw [if_neg (by omega)]
    · rfl
theorem bitCells_one (f : Nat → Bool) : ∀ u ∈ bitCells f, u.oneCell' = true := by
  intro u hu
  obtain ⟨i, _, rfl⟩ := List.mem_map.1 hu
  rfl
end Go.Proofs.YtlchipjckgaclaaDoor

/- bitsOf: the bits of a set. -/
namespace Go.Proofs.YtlchipjckgaclaaDoor
set_option linter.unusedSimpArgs false
set_option linter.unusedVariables false
set_option maxRecDepth 100000
open Go.RowKit

end Go.Proofs.YtlchipjckgaclaaDoor

/- spans: the set of bits. -/
namespace Go.Proofs.YtlchipjckgaclaaDoor
set_option linter.unusedSimpArgs false
set_option linter.unusedVariables false
set_option maxRecDepth 100000
open Go.RowKit

end Go.Proofs.YtlchipjckgaclaaDoor

/- spec.l1Of: the spans of 256 marks. -/
namespace Go.Proofs.YtlchipjckgaclaaDoor
set_option linter.unusedSimpArgs false
set_option linter.unusedVariables false
set_option maxRecDepth 100000
open Go.RowKit

theorem bitr_cell {w : World} {g t : Nat} {f : Nat → Bool} (h : Blk w g (bitCells f).toArray t) (k : Nat) (hk : k < 256) : w.cell? ⟨g, k, none⟩ = some (.bool (f k)) := by
  rw [h.cell]
  simpa using bitCells_get f k hk
theorem bitr_set {w : World} {g t : Nat} {f : Nat → Bool} (h : Blk w g (bitCells f).toArray t) (k : Nat) (b : Bool) : Blk (w.setCell ⟨g, k, none⟩ (.bool b)) g (bitCells fun i => if i = k then b else f i).toArray t := by
  have := h.set k (.bool b)
  rw [show (bitCells f).toArray.setIfInBounds k (.bool b) = ((bitCells f).set k (.bool b)).toArray by simp, bitCells_set] at this
  exact this
theorem spansTo_hi {f : Nat → Bool} {n : Nat} (hn : n ≤ 256) {x : Sp} (hl : 0 < (spansTo f n).length) (hx : (spansTo f n)[(spansTo f n).length - 1]? = some x) :
    0 ≤ x.hi ∧ x.hi ≤ 255 ∧ (x.hi = (n : Int) - 1 → 0 < n ∧ f (n - 1) = true) := by
  have h := upto_spans f n hn
  have hlast : (spansTo f n).getLast? = some x := by rw [List.getLast?_eq_getElem?]; exact hx
  have b := setOk_last h.ok hlast
  refine ⟨by omega, b.2.2, fun e => ?_⟩
  obtain ⟨ys, hys⟩ := List.getLast?_eq_some_iff.1 hlast
  have hin : setHas (spansTo f n) x.hi = true := by
    rw [hys, setHas_append]
    simp [setHas_cons, spIn]
    right; omega
  obtain ⟨k, hk, hf, hke⟩ := (h.has _).1 hin
  obtain rfl : k = n - 1 := by omega
  exact ⟨by omega, hf⟩
theorem own_empty (w : World) : OwnSp (w.alloc (.cells #[] TSp)) w.heap.size (.slice (some ⟨w.heap.size, 0, none⟩) 0 0) [] :=
  ⟨own_of_blk (cs := []) (n := 0) (blk_new w #[] TSp) (by simp) (Nat.le_refl _) (by decide), by simp⟩

set_option maxRecDepth 100000 in
set_option maxHeartbeats 2000000 in
theorem sl1Of_c (f : Nat → Bool) (g : Nat) (w : World) (h : Blk w g (bitCells f).toArray 4) :
    Calls Tryd.prog 103 #[.slice (some ⟨g, 0, none⟩) 256 256] w fun e w' => ∃ v, e = .returned v ∧ OwnSp w' w.heap.size v (spansOf f) ∧ Below w.heap.size w w' := by
  obtain ⟨i0, hi, hz0, hz1, hz2⟩ := info_parts infoSp
  have HO := Lib.hid (own_empty w)
  have HB := Lib.hid (below_alloc (Below.refl w.heap.size w) (.cells #[] TSp))
  have HX := Lib.hid h
  clear h
  go_enter Tryd.func103, Tryd.ntmps103
  go_wp2
  go_loopg [3, 4] 256 (fun n v i wr => ∃ k : Nat, Hid (k + n = 256) ∧ i = .int .i64 k ∧ Hid (OwnSp wr w.heap.size v (spansTo f k)) ∧ Hid (Below w.heap.size w wr))
  case atStart => exact ⟨0, rfl, rfl, HO, HB⟩
  case round =>
    clear HO HB
    obtain ⟨k, hk, rfl, HO, HB⟩ := hrel
    by_cases hk2 : k < 256
    · have c2 := bitr_cell (HX.out.below HB.out) k hk2
      have hlen := spansTo_length f k
      by_cases hf : f k = true
      · rw [hf] at c2
        have e0 : IntKind.i64.wrap ((k : Int) - 1) = (k : Int) - 1 := IntWalk.i64_in _ (by omega)
        by_cases hl : 0 < (spansTo f k).length
        · obtain ⟨g', cap, rfl, hg, _⟩ := own_form HO.out.own hl
          obtain ⟨x, HX1, c0, c1, f0, f1⟩ := HO.out.cells ((spansTo f k).length - 1) (by omega)
          have hh := spansTo_hi (f := f) (n := k) (by omega) hl HX1.out
          have d4 : decide (0 < (spansTo f k).length) = true := decide_eq_true hl
          have e1 : IntKind.i64.wrap (((spansTo f k).length : Int) - 1) = ((spansTo f k).length : Int) - 1 := IntWalk.i64_in _ (by omega)
          have e2 : (0 : Int) ≤ ((spansTo f k).length : Int) - 1 := by omega
          have e3 : ((spansTo f k).length : Int) - 1 < ((spansTo f k).length : Int) := by omega
          have e4 : (((spansTo f k).length : Int) - 1).toNat = (spansTo f k).length - 1 := by omega
          have e5 : (1 : Int) ≤ ((spansTo f k).length : Int) := by omega
          by_cases hx : x.hi = (k : Int) - 1
          · have hp := hh.2.2 hx
            obtain ⟨y, hy1, _, _, hy4⟩ := spansTo_ext hf hp.1 hp.2 (by omega)
            obtain rfl : x = y := by
              have := HX1.out
              rw [hy1] at this
              exact (Option.some.inj this).symm
            have E : Hid (spansTo f (k + 1) = (spansTo f k).set ((spansTo f k).length - 1) ⟨x.lo, k⟩) := hy4
            have d5 : (x.hi == (k : Int) - 1) = true := by rw [hx]; simp
            clear hf hp hy1 hy4 hh hx hl
            go_wp2
            go_roundg (gk - 1)
            case rel => exact ⟨k + 1, by have := hk.out; show _ = _; omega, by go_num, by rw [E.out]; exact HO.out.setHi _ x HX1.out _, below_set HB.out (by simp; omega) _⟩
            case measure => have := hk.out; omega
          · have hp' : k = 0 ∨ f (k - 1) = false := by
              rcases Nat.eq_zero_or_pos k with h0 | h0
              · exact .inl h0
              · refine .inr ?_
                rw [Bool.eq_false_iff]
                intro hc
                obtain ⟨y, hy1, _, hy3, _⟩ := spansTo_ext hf h0 hc (by omega)
                have := HX1.out
                rw [hy1] at this
                obtain rfl := Option.some.inj this
                exact hx hy3
            have E : Hid (spansTo f (k + 1) = spansTo f k ++ [⟨k, k⟩]) := spansTo_new hf hp'
            have d5 : (x.hi == (k : Int) - 1) = false := by simp [hx]
            have hsz := HB.out.size
            clear hf hp' hh hx hl
            go_wp2_with (at_builtin; refine wpList_append_own _ rfl (.tmp 37) (.tmp 41) 25 rfl w.heap.size TSp i0 (.agg #[.int .i64 0, .int .i64 0]) 2 16 Tryd.underlying25 hi hz0 hz1 hz2 rfl (by decide) _ _ _ rfl (HO.out.own.alloc _) ⟨wr.heap.size, 0, none⟩ 1 1 [.int .i64 k, .int .i64 k] rfl rfl (new_cells wr [.int .i64 k, .int .i64 k] TSp) (two_one _ _) (by unfold maxLen; omega) (by omega) (by simp; omega) ?_; intro v' w2 hown' hgrow _)
            have hbs := own_base HO.out.own
            go_roundg (gk - 1)
            case rel => exact ⟨k + 1, by have := hk.out; show _ = _; omega, by go_num, by rw [E.out]; exact OwnSp.snoc hown', (below_alloc HB.out _).grown hgrow (by simp; omega) (fun q hq => by have := (hbs q hq).1; omega)⟩
            case measure => have := hk.out; omega
        · have hsz := HB.out.size
          have h0 : (spansTo f k).length = 0 := by omega
          have hp' : k = 0 ∨ f (k - 1) = false := by
            rcases Nat.eq_zero_or_pos k with h0' | h0'
            · exact .inl h0'
            · refine .inr ?_
              rw [Bool.eq_false_iff]
              intro hc
              obtain ⟨y, _, hy2, _, _⟩ := spansTo_ext hf h0' hc (by omega)
              omega
          have E : Hid (spansTo f (k + 1) = spansTo f k ++ [⟨k, k⟩]) := spansTo_new hf hp'
          obtain ⟨A, c, rfl, _⟩ := HO.out.sps
          have d4 : decide (0 < (spansTo f k).length) = false := decide_eq_false hl
          have HH := Lib.hid h0
          clear hf hp' hl h0
          go_wp2_with (at_builtin; refine wpList_append_own _ rfl (.tmp 37) (.tmp 41) 25 rfl w.heap.size TSp i0 (.agg #[.int .i64 0, .int .i64 0]) 2 16 Tryd.underlying25 hi hz0 hz1 hz2 rfl (by decide) _ _ _ rfl (HO.out.own.alloc _) ⟨wr.heap.size, 0, none⟩ 1 1 [.int .i64 k, .int .i64 k] rfl rfl (new_cells wr [.int .i64 k, .int .i64 k] TSp) (two_one _ _) (by unfold maxLen; omega) (by omega) (by simp; omega) ?_; intro v' w2 hown' hgrow _)
          have hbs := own_base HO.out.own
          go_roundg (gk - 1)
          case rel => exact ⟨k + 1, by have := hk.out; show _ = _; omega, by go_num, by rw [E.out]; exact OwnSp.snoc hown', (below_alloc HB.out _).grown hgrow (by simp; omega) (fun q hq => by have := (hbs q hq).1; omega)⟩
          case measure => have := hk.out; omega
      · have hf' : f k = false := by simpa using hf
        rw [hf'] at c2
        have E : Hid (spansTo f (k + 1) = spansTo f k) := spansTo_no hf'
        clear hf hf'
        go_wp2
        go_roundg (gk - 1)
        case rel => exact ⟨k + 1, by have := hk.out; show _ = _; omega, by go_num, by rw [E.out]; exact HO, HB⟩
        case measure => have := hk.out; omega
    · have HK : Hid (k = 256) := by have := hk.out; show _ = _; omega
      go_wp2
      go_ret
      have := HK.out
      subst this
      exact ⟨_, rfl, HO.out, HB.out⟩

end Go.Proofs.YtlchipjckgaclaaDoor
