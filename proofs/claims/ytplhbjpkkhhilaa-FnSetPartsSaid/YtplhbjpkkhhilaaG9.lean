/- Texts joined for the claims: Sl Ds W4i W7. -/
import Derived.Test.YtplhbjpkkhhilaaG7
import Derived.Test.YtplhbjpkkhhilaaG8
import Derived.Test.YtplhbjpkkhhilaaG6
import Derived.Test.YtplhbjpkkhhilaaG3
import Derived.Test.YtplhbjpkkhhilaaG5
/- The parts of some sets: plain law of FnSetParts. -/
namespace Go.Proofs.Ytplhbjpkkhhilaa
set_option linter.unusedSimpArgs false
set_option linter.unusedVariables false

theorem part_get {xss : List (List Sp)} {i : Nat} {p : List Sp} (h : (partsOf xss)[i]? = some p) : ∃ r, (reps xss 256)[i]? = some r ∧ p = partOf xss r := by
  unfold partsOf at h
  rw [List.getElem?_map, Option.map_eq_some_iff] at h
  obtain ⟨r, h1, h2⟩ := h
  exact ⟨r, h1, h2.symm⟩
theorem part_has {xss : List (List Sp)} {r y : Nat} (hy : y < 256) : setHas (partOf xss r) (y : Int) = decide (key xss y = key xss r) := setHas_spans_nat _ _ hy
theorem part_first {xss : List (List Sp)} {r : Nat} (hr : r < 256) (h : isRep xss r = true) : setFirst (partOf xss r) = (r : Int) := by
  refine of_decide_eq_true ?_
  unfold partOf
  rw [first_is _ hr, Bool.and_eq_true, List.all_eq_true]
  refine ⟨by simp, fun y hy => ?_⟩
  have := isRep_iff.1 h y (List.mem_range.1 hy)
  simp [this]
theorem part_pos (xss : List (List Sp)) {r : Nat} (hr : r < 256) : 0 < (partOf xss r).length := spansOf_pos ⟨r, hr, by simp⟩
theorem key_mem : ∀ {xss : List (List Sp)} {x y : Nat} {s : List Sp}, s ∈ xss → key xss x = key xss y → setHas s (x : Int) = setHas s (y : Int)
  | [], _, _, _, h, _ => by simp at h
  | t :: xss, x, y, s, h, e => by
    unfold key at e
    rw [List.map_cons, List.map_cons, List.cons.injEq] at e
    rcases List.mem_cons.1 h with rfl | h
    · exact e.1
    · exact key_mem h e.2
theorem key_ne : ∀ {xss : List (List Sp)} {x y : Nat}, key xss x ≠ key xss y → (xss.any fun s => setHas s (x : Int) != setHas s (y : Int)) = true
  | [], _, _, h => absurd rfl h
  | t :: xss, x, y, h => by
    rw [List.any_cons, Bool.or_eq_true]
    by_cases e : setHas t (x : Int) = setHas t (y : Int)
    · right
      refine key_ne fun e2 => h ?_
      unfold key at e2 ⊢
      rw [List.map_cons, List.map_cons, e, e2]
    · left
      simpa using e
theorem spans_none {f : Nat → Bool} (h : ∀ k, k < 256 → f k = false) : spansOf f = [] := by
  rw [show spansOf f = spansOf fun _ => false from spansOf_congr h]
  decide +kernel
theorem meet_spans' (f : Nat → Bool) {s : List Sp} (hs : setOk s = true) : setMeet (spansOf f) s = spansOf fun y => f y && setHas s (y : Int) := by
  unfold setMeet
  rw [setOk_spans, hs]
  exact spansOf_congr fun k hk => by rw [setHas_spans_nat f k hk]
theorem part_meet {xss : List (List Sp)} {r : Nat} {s : List Sp} (hs : setOk s = true) (hm : s ∈ xss) : setMeet (partOf xss r) s = partOf xss r ∨ setMeet (partOf xss r) s = [] := by
  unfold partOf
  rw [meet_spans' _ hs]
  cases hr : setHas s (r : Int) with
  | true =>
    left
    refine spansOf_congr fun y hy => ?_
    by_cases e : key xss y = key xss r
    · rw [key_mem hm e, hr, Bool.and_true]
    · simp [e]
  | false =>
    right
    refine spans_none fun y hy => ?_
    by_cases e : key xss y = key xss r
    · rw [key_mem hm e, hr, Bool.and_false]
    · simp [e]
theorem part_apart {xss : List (List Sp)} {r s : Nat} (h : key xss r ≠ key xss s) : setMeet (partOf xss r) (partOf xss s) = [] := by
  unfold partOf
  rw [meet_spans' _ (setOk_spans _)]
  refine spans_none fun y hy => ?_
  rw [setHas_spans_nat _ y hy]
  by_cases e : key xss y = key xss r
  · have : ¬ key xss y = key xss s := fun e2 => h (e.symm.trans e2)
    simp [this]
  · simp [e]
theorem reps_sorted {xss : List (List Sp)} {b i j r s : Nat} (hi : (reps xss b)[i]? = some r) (hj : (reps xss b)[j]? = some s) (h : i < j) : r < s := by
  have hp : (reps xss b).Pairwise (· < ·) := List.Pairwise.sublist List.filter_sublist List.pairwise_lt_range
  obtain ⟨h1, rfl⟩ := List.getElem?_eq_some_iff.1 hi
  obtain ⟨h2, rfl⟩ := List.getElem?_eq_some_iff.1 hj
  exact List.pairwise_iff_getElem.1 hp i j h1 h2 h
theorem reps_ne {xss : List (List Sp)} {b i j r s : Nat} (hi : (reps xss b)[i]? = some r) (hj : (reps xss b)[j]? = some s) (h : i ≠ j) : key xss r ≠ key xss s := fun e => h (rep_inj hi hj e)

/-- the sizes add up -/
def sumS : List (List Sp) → Nat
  | [] => 0
  | s :: l => cnt (fun i => setHas s (i : Int)) 256 + sumS l
theorem sumS_take : ∀ {l : List (List Sp)} {i : Nat} {p : List Sp}, l[i]? = some p → sumS (l.take (i + 1)) = sumS (l.take i) + cnt (fun i => setHas p (i : Int)) 256
  | [], i, p, h => by simp at h
  | s :: l, 0, p, h => by
    obtain rfl := Option.some.inj h
    simp [sumS]
  | s :: l, i + 1, p, h => by
    have := sumS_take (l := l) (i := i) (p := p) (by simpa using h)
    rw [List.take_succ_cons, List.take_succ_cons, sumS, sumS, this]
    omega
def sumF (f : Nat → Nat → Bool) (n : Nat) : List Nat → Nat
  | [] => 0
  | r :: l => cnt (f r) n + sumF f n l
theorem sumF_succ (f : Nat → Nat → Bool) (n : Nat) : ∀ l, sumF f (n + 1) l = sumF f n l + (l.filter fun r => f r n).length
  | [] => rfl
  | r :: l => by
    rw [sumF, sumF, sumF_succ f n l, cnt, List.filter_cons]
    split <;> rename_i h <;> simp [h] <;> omega
theorem one_rep (xss : List (List Sp)) {n : Nat} (hn : n < 256) : ((reps xss 256).filter fun r => decide (key xss n = key xss r)).length = 1 := by
  obtain ⟨r, hr, h1, h2⟩ := rep_exists xss n
  have hm : r ∈ reps xss 256 := List.mem_filter.2 ⟨List.mem_range.2 (by omega), h1⟩
  have nd : (reps xss 256).Nodup := List.Pairwise.sublist List.filter_sublist List.nodup_range
  have nd2 : ((reps xss 256).filter fun r => decide (key xss n = key xss r)).Nodup := List.Pairwise.sublist List.filter_sublist nd
  have hm2 : r ∈ (reps xss 256).filter fun r => decide (key xss n = key xss r) := List.mem_filter.2 ⟨hm, by simp [h2]⟩
  have hall : ∀ s ∈ (reps xss 256).filter fun r => decide (key xss n = key xss r), s = r := by
    intro s hs
    obtain ⟨h3, h4⟩ := List.mem_filter.1 hs
    obtain ⟨i, hi⟩ := List.mem_iff_getElem?.1 hm
    obtain ⟨j, hj⟩ := List.mem_iff_getElem?.1 h3
    have e : i = j := rep_inj hi hj (h2.trans (of_decide_eq_true h4))
    subst e
    rw [hi] at hj
    exact (Option.some.inj hj).symm
  rcases hl : (reps xss 256).filter fun r => decide (key xss n = key xss r) with _ | ⟨a, _ | ⟨b, l⟩⟩
  · rw [hl] at hm2; simp at hm2
  · rfl
  · rw [hl] at hall nd2
    have ea := hall a (by simp)
    have eb := hall b (by simp)
    rw [ea, eb] at nd2
    simp at nd2
theorem sumF_all (xss : List (List Sp)) : ∀ n, n ≤ 256 → sumF (fun r y => decide (key xss y = key xss r)) n (reps xss 256) = n
  | 0, _ => by
    generalize reps xss 256 = l
    induction l with
    | nil => rfl
    | cons r l ih => rw [sumF, ih]; rfl
  | n + 1, h => by rw [sumF_succ, sumF_all xss n (by omega), one_rep xss (by omega)]
theorem cnt_congr {f g : Nat → Bool} : ∀ n, (∀ k, k < n → f k = g k) → cnt f n = cnt g n
  | 0, _ => rfl
  | n + 1, h => by rw [cnt, cnt, cnt_congr n fun k hk => h k (by omega), h n (by omega)]
theorem sumS_map (xss : List (List Sp)) : ∀ l : List Nat, sumS (l.map (partOf xss)) = sumF (fun r y => decide (key xss y = key xss r)) 256 l
  | [] => by rw [List.map_nil, sumS, sumF]
  | r :: l => by
    have e : cnt (fun i => setHas (partOf xss r) (i : Int)) 256 = cnt (fun y => decide (key xss y = key xss r)) 256 := cnt_congr 256 fun k hk => part_has hk
    rw [List.map_cons, sumS, sumS_map xss l, sumF, e]
theorem sumS_all (xss : List (List Sp)) : sumS (partsOf xss) = 256 := by
  rw [← sumF_all xss 256 (Nat.le_refl _)]
  exact sumS_map xss (reps xss 256)
theorem sumS_le : ∀ (l : List (List Sp)) (i : Nat), sumS (l.take i) ≤ sumS l
  | [], i => by simp [sumS]
  | s :: l, 0 => by simp [sumS]
  | s :: l, i + 1 => by
    have := sumS_le l i
    rw [List.take_succ_cons, sumS, sumS]
    omega
/-- some set tells them apart -/
def apartN (xss : List (List Sp)) (x y n : Nat) : Bool := (xss.take n).any fun s => setHas s (x : Int) != setHas s (y : Int)
theorem apartN_succ {xss : List (List Sp)} {x y n : Nat} {s : List Sp} (h : xss[n]? = some s) : apartN xss x y (n + 1) = (apartN xss x y n || (setHas s (x : Int) != setHas s (y : Int))) := by
  unfold apartN
  rw [List.take_add_one, h, List.any_append]
  simp
theorem apartN_done {xss : List (List Sp)} {x y n : Nat} (h : key xss x ≠ key xss y) (hn : n = xss.length) : apartN xss x y n = true := by
  unfold apartN
  rw [hn, List.take_length]
  exact key_ne h

end Go.Proofs.Ytplhbjpkkhhilaa

/- DrawSetParts: some sets. -/
namespace Go.Proofs.Ytplhbjpkkhhilaa
set_option linter.unusedSimpArgs false
set_option linter.unusedVariables false
open Go.RowKit

/-- one set is appended: what is left -/
theorem draw_app {w1 w w2 wE : World} {g q2 m : Nat} {fp : List Nat} {v v' x : Value} {xss : List (List Sp)} {xs : List Sp} {L : List Value} {O : Obj} (h : OwnSS w fp v xss L) (hf : ∀ b, b ∈ fp → w1.heap.size ≤ b) (hG : w1.grownBy w (some g)) (hg : g < w1.heap.size)
    (ho : OwnSp w2 w.heap.size x xs) (hR : Rd w2 g q2) (hG2 : w.grownBy w2 (some g)) (hm : m = xss.length)
    (hown : wE.ownsRow 0 TSS 1 v' (m + 1) (L ++ [x])) (hgr : (w2.alloc O).grownBy wE v.ownBlock) (hat : ∀ b, b ∈ vblk v' → b ∈ vblk v ∨ b = (w2.alloc O).heap.size) (hn : m + 1 ≤ maxN) :
    ∃ fp', OwnSS wE fp' v' (xss ++ [xs]) (L ++ [x]) ∧ (∀ b, b ∈ fp' → w1.heap.size ≤ b) ∧ w1.grownBy wE (some g) ∧ Rd wE g q2 := by
  subst hm
  have hz := hG.size
  have hz2 := hG2.size
  have hv : ∀ b, b ∈ vblk v → b ∈ fp := fun b hb => by rw [h.fe]; exact List.mem_append_left _ hb
  have h2 : OwnSS w2 fp v xss L := h.stay fun b hb => hG2.block b (h.lt b hb) (fun e => by have := hf b hb; injection e with e; omega)
  have ba := below_alloc (Below.refl w2.heap.size w2) O
  have hO := (h2.under ba).one ((ho.lower (Nat.zero_le _)).stay fun b hb => ba.block b (ho.lt b hb).2) (fun b hb hb2 => by have := (ho.lt b hb).1; have := h.lt b hb2; omega) hown hgr hat hn
  have hbl : ∀ k, v.ownBlock = some k → w1.heap.size ≤ k := fun k hk => hf k (hv k (mem_vblk.2 hk))
  refine ⟨_, hO, fun b hb => ?_, grown_row (grown_then (grown_then hG hG2) (grown_below (below_alloc (Below.refl _ _) O))) hgr hbl, (hR.below ba).grown hgr fun k hk => by have := hbl k hk; omega⟩
  rcases List.mem_append.1 hb with hb | hb
  · rcases hat b hb with h1 | h1
    · exact hf b (hv b h1)
    · simp at h1; omega
  · rw [List.flatMap_append] at hb
    rcases List.mem_append.1 hb with hb | hb
    · exact hf b (by rw [h.fe]; exact List.mem_append_right _ hb)
    · have := (ho.lt b (by simpa using hb)).1; omega
theorem slice_one' (A : Option Addr) (n c : Nat) : ∀ u ∈ [Value.slice A n c], u.oneCell' = true := by
  intro u hu
  rw [List.mem_singleton.1 hu]
  rfl

set_option maxHeartbeats 2000000 in
theorem drawSetParts_c (A : Option Addr) (c : Nat) (bs : List Int) (w : World) (h : Bys w 0 A c bs) :
    Calls Try.prog 11 #[.slice A bs.length c] w fun e w' => ∃ K ck xss, e = .returned (.slice K (List.length xss) ck) ∧ SSV w' 0 K ck xss ∧ xss.length ≤ 10 ∧ Below w.heap.size w w' := by
  obtain ⟨i1', hi, hz0, hza, hz2⟩ := info_parts infoSS
  go_enter Try.func11, Try.ntmps11
  go_wp2_with fail
  refine (open_c _ _ _ _ h).mono ?_
  rintro e w1 ⟨g, rfl, HR, hg, b1⟩
  have hgw := HR.lt
  have B1 := Lib.hid b1
  clear b1
  go_wp2_with fail
  have HO0 := Lib.hid (own_ee w1)
  have ba := below_alloc (Below.refl w1.heap.size w1) (.cells #[] TSS)
  refine (pick_c g 0 4 _ (HR.below ba) (by omega) (by omega) (by omega)).mono ?_
  rintro e w2 ⟨r, rfl, r0, r1, HR2, HG⟩
  obtain ⟨rn, rfl⟩ : ∃ rn : Nat, r = rn := ⟨r.toNat, by omega⟩
  have GG0 := Lib.hid (grown_then (grown_below ba) HG)
  have HO2 : Hid (OwnSS w2 [w1.heap.size] (.slice (some ⟨w1.heap.size, 0, none⟩) 0 0) [] []) := HO0.out.stay fun b hb => HG.block b (HO0.out.lt b hb) (fun e => by simp at hb; injection e with e; omega)
  have HF0 : Hid (∀ b, b ∈ [w1.heap.size] → w1.heap.size ≤ b) := fun b hb => by simp at hb; omega
  have HRH := Lib.hid HR2
  clear HR HR2 HG ba HO0
  go_wp2_with fail
  go_loopg [4, 5] rn (fun n v4 v5 wr => v5 = .int .i64 n ∧ ∃ (A2 : Option Addr) (n2 c2 : Nat) (fp : List Nat) (xss : List (List Sp)) (L : List Value) (q : Nat), v4 = .slice A2 n2 c2 ∧ Hid (n2 = xss.length) ∧ n2 + n = rn ∧ q ≤ 1 + 10 * n2 ∧ Hid (OwnSS wr fp (.slice A2 n2 c2) xss L) ∧ Hid (∀ b, b ∈ fp → w1.heap.size ≤ b) ∧ Hid (w1.grownBy wr (some g)) ∧ Hid (Rd wr g q))
  case atStart => exact ⟨rfl, _, _, _, _, [], [], 1, rfl, rfl, by omega, by omega, HO2, HF0, GG0, HRH⟩
  case round =>
    clear HO2 HF0 GG0 HRH
    obtain ⟨rfl, A2, n2, c2, fp, xss, L, q, rfl, HN, hnr, hq, OW, HF, GG, HRH⟩ := hrel
    by_cases hlt : 0 < gk
    · have hlt' : (0 : Int) < (gk : Int) := by omega
      go_wp2_with fail
      refine (l1Set_c g q _ HRH.out (by omega)).mono ?_
      rintro e w3 ⟨f, vx, q2, rfl, ox, _, hr, hq2, hG⟩
      obtain ⟨xs, hxs⟩ : ∃ xs, xs = spansOf f := ⟨_, rfl⟩
      rw [← hxs] at ox
      obtain ⟨AX, cX, rfl, _⟩ := ox.sps
      have OX := Lib.hid ox
      have HR := Lib.hid hr
      have HG := Lib.hid hG
      have Hc : Hid (w3.ownsRow 0 TSS 1 (.slice A2 n2 c2) n2 L) := by
        have := (OW.out.stay (w' := w3) fun b hb => hG.block b (OW.out.lt b hb) (fun e => by have := HF.out b hb; injection e with e; omega)).hk
        rw [← HN.out] at this
        exact this
      clear ox hr hG hxs
      have hn1 : n2 + 1 ≤ maxN := by unfold maxN; omega
      have hn2 : n2 + 1 ≤ maxLen := by unfold maxLen; omega
      have hn3 : (n2 + 1) * 24 ≤ 140737488355328 := by omega
      have HDA := Lib.hid (fun (A5 : Option Addr) (c5 : Nat) (wE : World) (hown : wE.ownsRow 0 TSS 1 (.slice A5 (n2+1) c5) (n2+1) (L ++ [.slice AX xs.length cX])) (hgrow : (w3.alloc (.cells #[.slice AX xs.length cX] TSS)).grownBy wE (Value.slice A2 n2 c2).ownBlock) (hat : ∀ b, b ∈ vblk (.slice A5 (n2+1) c5) → b ∈ vblk (.slice A2 n2 c2) ∨ b = (w3.alloc (.cells #[.slice AX xs.length cX] TSS)).heap.size) => draw_app OW.out HF.out GG.out hgw OX.out HR.out HG.out HN.out hown hgrow hat hn1)
      go_wp2_with (at_builtin; refine wpList_append_row (by rfl) (.tmp 15) (.tmp 18) 23 (by rfl) 0 TSS i1' nilS 1 24 Try.underlying23 hi hz0 hza hz2 rfl (by decide) (.slice A2 n2 c2) n2 L (by rfl) (own_below Hc.out (below_alloc (Below.refl _ _) _)) (some ⟨w3.heap.size, 0, none⟩) 1 1 [.slice AX xs.length cX] (by rfl) (.inr ⟨⟨w3.heap.size, 0, none⟩, rfl, Nat.zero_le _, new_cells w3 [.slice AX xs.length cX] TSS⟩) rfl (slice_one' _ _ _) hn2 hn3 (Nat.zero_le _) _ rfl (n2 + 1) rfl ?_; intro A5 c5 wE hown hgrow hat; have HD := Lib.hid (HDA.out _ _ _ hown hgrow hat); clear hown hgrow hat)
      go_roundg (gk - 1)
      case measure => omega
      case rel =>
        obtain ⟨fp', h1, h2, h3, h4⟩ := HD.out
        exact ⟨by go_num, A5, n2 + 1, c5, fp', xss ++ [xs], L ++ [Value.slice AX xs.length cX], q2, rfl, by show _ = _; rw [List.length_append, HN.out]; rfl, by omega, by omega, Lib.hid h1, Lib.hid h2, Lib.hid h3, Lib.hid h4⟩
    · have hgk : gk = 0 := by omega
      subst hgk
      go_wp2_with fail
      refine (pick_c g q 20 _ HRH.out (by omega) (by omega) (by omega)).mono ?_
      rintro e w2' ⟨r', rfl, r0', r1', HR2, HG2⟩
      have OW2 := Lib.hid (OW.out.stay (w' := w2') fun b hb => HG2.block b (OW.out.lt b hb) (fun e => by have := HF.out b hb; injection e with e; omega))
      have GG2 := Lib.hid (grown_then GG.out HG2)
      have HRH2 := Lib.hid HR2
      clear OW GG HRH HR2 HG2
      by_cases hr : r' = 0
      · subst hr
        go_wp2_with fail
        refine (l1Bent_c g (q + 1) _ HRH2.out (by omega)).mono ?_
        rintro e w3 ⟨xs, vx, q2, rfl, ox, _, _, hr, hq2, hG⟩
        obtain ⟨AX, cX, rfl, _⟩ := ox.sps
        have OX := Lib.hid ox
        have HR := Lib.hid hr
        have HG := Lib.hid hG
        have OW := OW2
        have GG := GG2
        have Hc : Hid (w3.ownsRow 0 TSS 1 (.slice A2 n2 c2) n2 L) := by
          have := (OW.out.stay (w' := w3) fun b hb => hG.block b (OW.out.lt b hb) (fun e => by have := HF.out b hb; injection e with e; omega)).hk
          rw [← HN.out] at this
          exact this
        clear ox hr hG
        have hn1 : n2 + 1 ≤ maxN := by unfold maxN; omega
        have hn2 : n2 + 1 ≤ maxLen := by unfold maxLen; omega
        have hn3 : (n2 + 1) * 24 ≤ 140737488355328 := by omega
        have HDA := Lib.hid (fun (A5 : Option Addr) (c5 : Nat) (wE : World) (hown : wE.ownsRow 0 TSS 1 (.slice A5 (n2+1) c5) (n2+1) (L ++ [.slice AX xs.length cX])) (hgrow : (w3.alloc (.cells #[.slice AX xs.length cX] TSS)).grownBy wE (Value.slice A2 n2 c2).ownBlock) (hat : ∀ b, b ∈ vblk (.slice A5 (n2+1) c5) → b ∈ vblk (.slice A2 n2 c2) ∨ b = (w3.alloc (.cells #[.slice AX xs.length cX] TSS)).heap.size) => draw_app OW.out HF.out GG.out hgw OX.out HR.out HG.out HN.out hown hgrow hat hn1)
        go_wp2_with (at_builtin; refine wpList_append_row (by rfl) (.tmp 23) (.tmp 26) 23 (by rfl) 0 TSS i1' nilS 1 24 Try.underlying23 hi hz0 hza hz2 rfl (by decide) (.slice A2 n2 c2) n2 L (by rfl) (own_below Hc.out (below_alloc (Below.refl _ _) _)) (some ⟨w3.heap.size, 0, none⟩) 1 1 [.slice AX xs.length cX] (by rfl) (.inr ⟨⟨w3.heap.size, 0, none⟩, rfl, Nat.zero_le _, new_cells w3 [.slice AX xs.length cX] TSS⟩) rfl (slice_one' _ _ _) hn2 hn3 (Nat.zero_le _) _ rfl (n2 + 1) rfl ?_; intro A5 c5 wE hown hgrow hat; have HD := Lib.hid (HDA.out _ _ _ hown hgrow hat); clear hown hgrow hat)
        obtain ⟨fp', h1, h2, h3, h4⟩ := HD.out
        obtain ⟨K', ck', e', s'⟩ := h1.ssv
        have hl : (xss ++ [xs]).length = n2 + 1 := by rw [List.length_append, HN.out]; rfl
        rw [hl] at e'
        injection e' with e1 e2 e3
        subst e1 e3
        have HS := Lib.hid s'
        have HB := Lib.hid (B1.out.grown h3 B1.out.size (fun k hk => by injection hk with hk; omega))
        clear h1 h2 h3 h4 s'
        go_wp2
        go_ret
        exact ⟨A5, c5, xss ++ [xs], by rw [hl]; rfl, HS.out, by omega, HB.out⟩
      · have hr' : (r' == 0) = false := by simp [hr]
        obtain ⟨K', ck', e', s'⟩ := OW2.out.ssv
        rw [← HN.out] at e'
        injection e' with e1 e2 e3
        subst e1 e3
        have HS := Lib.hid s'
        have HB := Lib.hid (B1.out.grown GG2.out B1.out.size (fun k hk => by injection hk with hk; omega))
        clear s'
        go_wp2
        go_ret
        exact ⟨A2, c2, xss, by rw [← HN.out]; rfl, HS.out, by have := HN.out; omega, HB.out⟩

end Go.Proofs.Ytplhbjpkkhhilaa

/- SetSame of the program. -/
namespace Go.Proofs.Ytplhbjpkkhhilaa
set_option linter.unusedSimpArgs false
set_option linter.unusedVariables false
open Go.RowKit

theorem iSetSame_c (A B : Option Addr) (c d : Nat) (xs ys : List Sp) (w : World) {lo lo' : Nat} (h : Sps w lo A c xs) (h' : Sps w lo' B d ys) :
    Calls Try.prog 14 #[.slice A xs.length c, .slice B ys.length d] w fun e w' => e = .returned (.bool (decide (xs = ys))) ∧ Drawn w w' := by
  go_enter Try.func14, Try.ntmps14
  go_wp2_with (go_at_call 50; refine (same_c _ _ _ _ _ _ _ h h').mono ?_; rintro e w' ⟨rfl, m, rfl⟩)
  go_ret
  exact ⟨rfl, _, rfl⟩

end Go.Proofs.Ytplhbjpkkhhilaa

/- SetJoin, SetMeet, SetNot of the program. (Printed by wip/gen/setops.py.) -/
namespace Go.Proofs.Ytplhbjpkkhhilaa
set_option linter.unusedSimpArgs false
set_option linter.unusedVariables false
open Go.RowKit

theorem own_nil (w : World) : OwnSp w w.heap.size (.slice none 0 0) [] := OwnSp.nil _ _
theorem bits_store_eq (f g : Nat → Bool) : ((bitCells g).toArray.toList.take 0 ++ bitCells f ++ (bitCells g).toArray.toList.drop (0 + (bitCells f).length)).toArray = (bitCells f).toArray := by
  simp [List.drop_of_length_le (show (bitCells g).length ≤ (bitCells f).length by rw [bitCells_length, bitCells_length]; exact Nat.le_refl _)]

set_option maxRecDepth 100000 in
set_option maxHeartbeats 2000000 in
theorem iSetMeet_c (A B : Option Addr) (c d : Nat) (xs ys : List Sp) (w : World) {lo lo' : Nat} (h : Sps w lo A c xs) (h' : Sps w lo' B d ys) :
    Calls Try.prog 17 #[.slice A xs.length c, .slice B ys.length d] w fun e w' => ∃ v, e = .returned v ∧ OwnSp w' w.heap.size v (setMeet xs ys) ∧ Below w.heap.size w w' := by
  by_cases ho : setOk xs = true
  · by_cases ho' : setOk ys = true
    · have E : Hid (setMeet xs ys = spansOf fun i => setHas xs i && setHas ys i) := by show _ = _; simp [setMeet, ho, ho']
      go_enter Try.func17, Try.ntmps17
      go_wp2_with fail
      refine (iSetOk_c _ _ _ _ h).mono ?_
      rintro e w1 ⟨rfl, b1⟩
      replace h := h.below b1
      replace h' := h'.below b1
      go_wp2_with fail
      refine (iSetOk_c _ _ _ _ h').mono ?_
      rintro e w2 ⟨rfl, b2⟩
      replace h := h.below b2
      replace h' := h'.below b2
      replace b2 := below_then b1 b2
      clear b1
      go_wp2_with fail
      refine (bitsOf_c _ _ _ _ h).mono ?_
      rintro e w3 ⟨rfl, b3⟩
      replace h' := h'.below b3
      replace b3 := below_then b2 b3
      clear b2 h
      go_wp2_with fail
      refine (bitsOf_c _ _ _ _ h').mono ?_
      rintro e w4 ⟨rfl, b4⟩
      replace b4 := below_then b3 b4
      clear b3 h'
      have HB4 : Hid (Below w.heap.size w w4) := b4
      clear b4
      go_wp2_with (first
        | (with_reducible refine ev_alloc (o := ⟨some 5, _, _, _, _, _⟩) rfl TBits rfl _ infoBits ?_; rintro _ w5 rfl hX5 hb5; have HB5 := Lib.hid (below_then HB4.out hb5))
        | (with_reducible refine ev_alloc (o := ⟨some 6, _, _, _, _, _⟩) rfl TBits rfl _ infoBits ?_; rintro _ w6 rfl hY6 hb6; have hX6 := hX5.below hb6; have HB6 := Lib.hid (below_then HB5.out hb6))
        | (with_reducible refine ev_store (o := ⟨none, .store _ (.tmp 5) _, _, _, _, _⟩) rfl rfl TBits (.tmp 5) (.tmp 17) rfl w4.heap.size 0 rfl (bitCells fun i => setHas xs i) rfl _ TBits hX6 (sizeBits' _) (by simp [bitCells_length]) (bitCells_one _) ?_; intro w7 hX7 hg7; rw [bits_store_eq] at hX7; have hY7 := hY6.grown hg7 (fun q hq => by injection hq with hq; have := hX5.lt; omega); have HB7 := Lib.hid (HB6.out.grown hg7 HB6.out.size (fun q hq => by injection hq with hq; have := HB4.out.size; omega)))
        | (with_reducible refine ev_store (o := ⟨none, .store _ (.tmp 6) _, _, _, _, _⟩) rfl rfl TBits (.tmp 6) (.tmp 19) rfl w5.heap.size 0 rfl (bitCells fun i => setHas ys i) rfl _ TBits hY7 (sizeBits' _) (by simp [bitCells_length]) (bitCells_one _) ?_; intro w8 hY8 hg8; rw [bits_store_eq] at hY8; have hX8 := hX7.grown hg8 (fun q hq => by injection hq with hq; have := hX5.lt; omega); have HB8 := Lib.hid (HB7.out.grown hg8 HB7.out.size (fun q hq => by injection hq with hq; have := HB5.out.size; omega))))
      have hlt := hX5.lt
      have hsz := HB4.out.size
      have HX := Lib.hid hX8
      have HY := Lib.hid hY8
      have HB := Lib.hid HB8.out
      clear hX5 hX6 hX7 hX8 hY6 hY7 hY8 hg7 hg8 hb5 hb6 HB4 HB5 HB6 HB7 HB8
      go_loopg [20] 256 (fun n i wr => ∃ k : Nat, Hid (k + n = 256) ∧ i = .int .i64 k ∧ ∃ f : Nat → Bool, Hid (Blk wr w4.heap.size (bitCells f).toArray TBits) ∧ Hid (∀ j, j < k → f j = (setHas xs j && setHas ys j)) ∧ Hid (∀ j, k ≤ j → f j = setHas xs j) ∧ Hid (Blk wr w5.heap.size (bitCells fun i => setHas ys i).toArray TBits) ∧ Hid (Below w.heap.size w wr))
      case atStart => exact ⟨0, rfl, rfl, _, HX, fun j hj => absurd hj (Nat.not_lt_zero _), fun j _ => rfl, HY, HB⟩
      case round =>
        clear HX HY HB
        obtain ⟨k, hk, rfl, f, HX, HF, HG, HY, HB⟩ := hrel
        by_cases hk2 : k < 256
        · have c0 := bit_cell HX.out k hk2
          have f0 := HX.out.free k
          have c1 := bit_cell HY.out k hk2
          have F0 := HG.out k (Nat.le_refl _)
          by_cases hf : f k = true
          · rw [hf] at c0
            have G : Hid (setHas xs k = true) := by rw [← F0]; exact hf
            clear hf F0
            go_wp2
            go_roundg (gk - 1)
            case rel =>
              refine ⟨k + 1, by have := hk.out; show _ = _; omega, by go_num, _, bit_set HX.out k _, ?_, ?_, HY.out.far (by simp; omega) _, below_set HB.out (by simp; omega) _⟩
              · intro j hj
                by_cases e : j = k
                · subst e; simp [G.out]
                · rw [if_neg e]
                  exact HF.out j (by omega)
              · intro j hj
                rw [if_neg (by omega)]
                exact HG.out j (by omega)
            case measure => have := hk.out; omega
          · have hf' : f k = false := by simpa using hf
            rw [hf'] at c0
            have G : Hid (setHas xs k = false) := by rw [← F0]; exact hf'
            clear hf hf' F0
            go_wp2
            go_roundg (gk - 1)
            case rel =>
              refine ⟨k + 1, by have := hk.out; show _ = _; omega, by go_num, _, bit_set HX.out k _, ?_, ?_, HY.out.far (by simp; omega) _, below_set HB.out (by simp; omega) _⟩
              · intro j hj
                by_cases e : j = k
                · subst e; simp [G.out]
                · rw [if_neg e]
                  exact HF.out j (by omega)
              · intro j hj
                rw [if_neg (by omega)]
                exact HG.out j (by omega)
            case measure => have := hk.out; omega
        · have hF : bitCells f = bitCells fun i => setHas xs i && setHas ys i := bitCells_congr fun i hi => HF.out i (by omega)
          have HK := Lib.hid hF
          clear hF
          go_wp2_with (with_reducible refine ev_load (o := ⟨some 34, _, _, _, _, _⟩) rfl TBits _ rfl w4.heap.size rfl (bitCells f) TBits HX.out _ uBits rfl (sizeBits' f) ?_)
          refine (spans_c f _).mono ?_
          rintro e w9 ⟨v9, rfl, o9, b9⟩
          go_wp2
          go_ret
          refine ⟨_, rfl, ?_, below_then HB.out b9⟩
          rw [E.out, spansOf_congr (fun i hi => (HF.out i (by omega)).symm)]
          exact o9.lower HB.out.size
    · have ho2 : setOk ys = false := by simpa using ho'
      have E : Hid (setMeet xs ys = []) := by show _ = _; simp [setMeet, ho2]
      clear ho'
      go_enter Try.func17, Try.ntmps17
      go_wp2_with fail
      refine (iSetOk_c _ _ _ _ h).mono ?_
      rintro e w1 ⟨rfl, b1⟩
      replace h' := h'.below b1
      go_wp2_with fail
      refine (iSetOk_c _ _ _ _ h').mono ?_
      rintro e w2 ⟨rfl, b2⟩
      go_wp2
      go_ret
      exact ⟨_, rfl, by rw [E.out]; exact OwnSp.nil _ _, below_then b1 b2⟩
  · have ho2 : setOk xs = false := by simpa using ho
    have E : Hid (setMeet xs ys = []) := by show _ = _; simp [setMeet, ho2]
    clear ho
    go_enter Try.func17, Try.ntmps17
    go_wp2_with fail
    refine (iSetOk_c _ _ _ _ h).mono ?_
    rintro e w1 ⟨rfl, b1⟩
    go_wp2
    go_ret
    exact ⟨_, rfl, by rw [E.out]; exact OwnSp.nil _ _, b1⟩

end Go.Proofs.Ytplhbjpkkhhilaa
