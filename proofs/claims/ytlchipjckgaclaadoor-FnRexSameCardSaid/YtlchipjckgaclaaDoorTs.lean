/- Patterns as texts: RexText of the program; bounds. -/
import Derived.Test.YtlchipjckgaclaaDoorTt
import Derived.Test.YtlchipjckgaclaaDoorG5
namespace Go.Proofs.YtlchipjckgaclaaDoor
set_option linter.unusedSimpArgs false
set_option linter.unusedVariables false
set_option maxRecDepth 100000
open Go.RowKit

theorem set_len {s : List Sp} (h : setOk s = true) : (setTxt s).length ≤ 44 * s.length + 2 := by
  unfold setTxt
  split
  · simp
  · have := acc_len s (ok_64 h) s.length (Nat.le_refl _)
    rw [List.take_length] at this
    omega
theorem kid_len : ∀ ks : List Rex, (∀ r ∈ ks, (rexTxt r).length ≤ 50 * r.size + 10) → (kidTxts ks).length ≤ 11 * ks.length + 50 * sizeL ks
  | [], _ => by simp [kidTxts, sizeL]
  | r :: ks, h => by
    have h1 := kid_len ks fun x hx => h x (by simp [hx])
    have h2 := h r (by simp)
    rw [kidTxts, sizeL, List.length_cons, List.length_append, List.length_cons]
    omega
theorem txt_len (r : Rex) : ∀ d, formed d r = true → (rexTxt r).length ≤ 50 * r.size + 10 := by
  refine Rex.ind (p := fun r => ∀ d, formed d r = true → (rexTxt r).length ≤ 50 * r.size + 10) (fun k s ks ih => ?_) r
  intro d hd
  obtain ⟨hkk, _, hok, _, hfk⟩ := formed_node hd
  by_cases h1 : k = 1
  · subst h1
    have hk0 : ks = [] := by
      rcases kidsOf_cases hkk with ⟨_, e⟩ | ⟨e, _⟩ | ⟨e, _⟩
      · exact List.length_eq_zero_iff.1 e
      · omega
      · omega
    subst hk0
    have h2 := set_len hok
    have h3 := kw_len 1
    rw [rexTxt_set, Rex.size, List.length_append, List.length_append, List.length_singleton]
    omega
  · have h2 := kid_len ks fun r hr => ih r hr (d - 1) (hfk r hr)
    have h3 := kw_len k
    rw [rexTxt_kids h1, Rex.size, List.length_append]
    omega
theorem kidTxts_app : ∀ a b : List Rex, kidTxts (a ++ b) = kidTxts a ++ kidTxts b
  | [], b => rfl
  | r :: a, b => by rw [List.cons_append, kidTxts, kidTxts, kidTxts_app a b]; simp
theorem kidTxts_le (ks : List Rex) (j : Nat) : (kidTxts (ks.take j)).length ≤ (kidTxts ks).length := by
  have : kidTxts ks = kidTxts (ks.take j) ++ kidTxts (ks.drop j) := by rw [← kidTxts_app, List.take_append_drop]
  rw [this, List.length_append]
  omega
theorem iJoinW_c (ws : List (List UInt8)) (g c : Nat) (w : World) {base : Nat} (h : w.ownsRow base TStr 1 (.slice (some ⟨g, 0, none⟩) ws.length c) ws.length (wcells ws)) (hn : ws.length ≤ 1048576) (hc : ws.length ≤ c) (hlen : (Lib.join ws [32]).length ≤ 140737488355328) :
    Calls Tryd.prog 44 #[.slice (some ⟨g, 0, none⟩) ws.length c, .string ⟨#[32]⟩] w fun e w' => e = .returned (.string (str (Lib.join ws [32]))) ∧ Below w.heap.size w w' := by
  have hl : (ws.map str).length = ws.length := List.length_map _
  have e : ((ws.map str).map (·.data.toList)) = ws := by
    rw [List.map_map]
    exact (List.map_congr_left fun x _ => rfl).trans (List.map_id _)
  have hj := Tryd.strings_Join g 0 c (ws.map str) ⟨#[32]⟩ w (fun j x hj => by
    rw [Nat.zero_add, h.cellAt j (by have := (List.getElem?_eq_some_iff.1 hj).1; rw [hl] at this; omega)]
    rw [List.getElem?_map, Option.map_eq_some_iff] at hj
    obtain ⟨y, hy, rfl⟩ := hj
    unfold wcells
    rw [List.getElem?_map, hy]
    rfl) (own_base h g rfl).2 (by rw [hl]; omega) (by rw [hl]; exact hc) (by rw [e]; exact hlen)
  rw [hl, e] at hj
  exact hj
theorem words_pos (r : Rex) : 0 < (wordsOf r).length := by
  obtain ⟨k, s, ks⟩ := r
  rw [wordsOf]
  simp
def rexText (r : Rex) : List UInt8 := if rexOk r then rexTxt r else []

set_option maxHeartbeats 1000000 in
theorem iTextOf_c (r : Rex) (v1 v2 : Value) (w : World) (lo : Nat) (h : RexV w lo r (.int .i64 r.kind) v1 v2) (hsz : r.size ≤ 1048576) (hok : rexOk r = true) (hp : Pow10 w) :
    Calls Tryd.prog 49 #[.agg #[.int .i64 r.kind, v1, v2]] w fun e w' => e = .returned (.string (str (rexTxt r))) ∧ Below w.heap.size w w' := by
  have hf := rexOk_formed hok
  have hm : r.many ≤ 24 := by rw [rexOk, Bool.and_eq_true] at hok; exact of_decide_eq_true hok.2
  obtain ⟨A, c, K, ck, _, rfl, rfl, _, _⟩ := h.parts
  obtain ⟨wa, hwa⟩ : ∃ x, x = w.alloc (.cells #[.int .i64 r.kind, .slice A r.set.length c, .slice K r.kids.length ck] TRx) := ⟨_, rfl⟩
  have hb : Below w.heap.size w wa := by rw [hwa]; exact below_alloc (Below.refl _ _) _
  have m0 : Blk wa w.heap.size #[.int .i64 r.kind, .slice A r.set.length c, .slice K r.kids.length ck] TRx := by rw [hwa]; exact blk_new w _ _
  have HV := Lib.hid (h.under hb)
  have HB := Lib.hid hb
  have M0 := Lib.hid m0
  clear m0 h
  replace hwa := hwa.symm
  have n0 : wa.cell? ⟨w.heap.size, 0, none⟩ = some (.int .i64 r.kind) := by rw [M0.out.cell]; rfl
  have n0' : wa.cell? ⟨w.heap.size, 1, none⟩ = some (.slice A r.set.length c) := by rw [M0.out.cell]; rfl
  have n0'' : wa.cell? ⟨w.heap.size, 2, none⟩ = some (.slice K r.kids.length ck) := by rw [M0.out.cell]; rfl
  have HPA := Lib.hid (hp.below hb)
  have HW := Lib.hid (words_many r)
  have HL := Lib.hid (txt_len r 8 hf)
  clear hok hp hb
  go_enter Tryd.func49, Tryd.ntmps49
  go_wp2_with fail
  clear hwa
  refine (iWrite_c r 8 _ _ wa wa lo none 0 0 [] hf HV.out (Below.refl _ _) (World.ownsRow_nil _ _ _ _) rfl hsz (by omega) HPA.out).mono ?_
  rintro e w1 ⟨A3, n3, c3, rfl, h3, o3, b3⟩
  rw [List.nil_append] at h3 o3
  subst h3
  obtain ⟨g, cc, e3, hg3, hc3⟩ := own_form o3 (words_pos r)
  injection e3 with e31 e32 e33
  subst e31 e33
  have HO := Lib.hid o3
  have HB3 := Lib.hid b3
  clear n0 n0' n0'' o3 b3
  go_wp2_with fail
  refine (iJoinW_c (wordsOf r) g c3 w1 HO.out (by have := HW.out; omega) hc3 (by have := HL.out; unfold rexTxt at this; omega)).mono ?_
  rintro e w2 ⟨rfl, b2⟩
  go_wp2_with fail
  go_ret
  exact ⟨rfl, below_then HB.out (below_then HB3.out b2)⟩
set_option maxHeartbeats 1000000 in
theorem iRexText_c (r : Rex) (v1 v2 : Value) (w : World) (lo : Nat) (h : RexV w lo r (.int .i64 r.kind) v1 v2) (hsz : r.size ≤ 1048576) (hp : Pow10 w) :
    Calls Tryd.prog 17 #[.agg #[.int .i64 r.kind, v1, v2]] w fun e w' => e = .returned (.string (str (rexText r))) ∧ Below w.heap.size w w' := by
  obtain ⟨A, c, K, ck, _, rfl, rfl, _, _⟩ := h.parts
  obtain ⟨wa, hwa⟩ : ∃ x, x = w.alloc (.cells #[.int .i64 r.kind, .slice A r.set.length c, .slice K r.kids.length ck] TRx) := ⟨_, rfl⟩
  have hb : Below w.heap.size w wa := by rw [hwa]; exact below_alloc (Below.refl _ _) _
  have m0 : Blk wa w.heap.size #[.int .i64 r.kind, .slice A r.set.length c, .slice K r.kids.length ck] TRx := by rw [hwa]; exact blk_new w _ _
  have HV := Lib.hid (h.under hb)
  have HB := Lib.hid hb
  have M0 := Lib.hid m0
  clear m0 h
  replace hwa := hwa.symm
  have n0 : wa.cell? ⟨w.heap.size, 0, none⟩ = some (.int .i64 r.kind) := by rw [M0.out.cell]; rfl
  have n0' : wa.cell? ⟨w.heap.size, 1, none⟩ = some (.slice A r.set.length c) := by rw [M0.out.cell]; rfl
  have n0'' : wa.cell? ⟨w.heap.size, 2, none⟩ = some (.slice K r.kids.length ck) := by rw [M0.out.cell]; rfl
  have HPA := Lib.hid (hp.below hb)
  clear hp hb
  go_enter Tryd.func17, Tryd.ntmps17
  go_wp2_with fail
  clear hwa
  refine (iRexOk_c _ _ _ _ _ HV.out hsz).mono ?_
  rintro e w1 ⟨rfl, b1⟩
  replace M0 := Lib.hid (M0.out.below b1)
  have H1 := Lib.hid b1
  clear n0 n0' n0'' b1
  have n0 : w1.cell? ⟨w.heap.size, 0, none⟩ = some (.int .i64 r.kind) := by rw [M0.out.cell]; rfl
  have n0' : w1.cell? ⟨w.heap.size, 1, none⟩ = some (.slice A r.set.length c) := by rw [M0.out.cell]; rfl
  have n0'' : w1.cell? ⟨w.heap.size, 2, none⟩ = some (.slice K r.kids.length ck) := by rw [M0.out.cell]; rfl
  by_cases hf : rexOk r = true
  · have HF := Lib.hid hf
    rw [hf]
    clear hf
    go_wp2_with fail
    refine (iTextOf_c r _ _ w1 lo (HV.out.under H1.out) hsz HF.out (HPA.out.below H1.out)).mono ?_
    rintro e w2 ⟨rfl, b2⟩
    clear n0 n0' n0''
    go_wp2_with fail
    go_ret
    exact ⟨by rw [rexText, if_pos HF.out]; rfl, below_then HB.out (below_then H1.out b2)⟩
  · have HF := Lib.hid hf
    rw [show rexOk r = false by simpa using hf]
    clear hf
    go_wp2_with fail
    go_ret
    exact ⟨by rw [rexText, if_neg HF.out]; rfl, below_then HB.out H1.out⟩

end Go.Proofs.YtlchipjckgaclaaDoor
