/- Texts joined for the claims: Pd Pe Pf Pg Bs Pj Ph. -/
import Derived.Test.YtplhbjpkkhhilaaG6
import Derived.Test.YtplhbjpkkhhilaaG5
import Derived.Great.BuildSlice
import Derived.Test.YtplhbjpkkhhilaaG4
import Derived.Test.YtplhbjpkkhhilaaG3
import Derived.Test.YtplhbjpkkhhilaaG2
/- l1Sort of the reference. -/
namespace Go.Proofs.Ytplhbjpkkhhilaa
set_option linter.unusedSimpArgs false
set_option linter.unusedVariables false
open Go.RowKit

def bucket (ps : List (List Sp)) (b : Nat) : List (List Sp) := ps.filter fun p => decide (setFirst p = (b : Int))
def sortTo (ps : List (List Sp)) (n : Nat) : List (List Sp) := (List.range n).flatMap (bucket ps)
theorem sortTo_succ (ps : List (List Sp)) (n : Nat) : sortTo ps (n + 1) = sortTo ps n ++ bucket ps n := by
  unfold sortTo
  rw [List.range_succ, List.flatMap_append]
  simp
theorem bucket_take {ps : List (List Sp)} {j : Nat} {p : List Sp} (b : Nat) (h : ps[j]? = some p) : bucket (ps.take (j + 1)) b = bucket (ps.take j) b ++ if setFirst p = (b : Int) then [p] else [] := by
  unfold bucket
  rw [List.take_add_one, h, List.filter_append]
  congr 1
  by_cases e : setFirst p = (b : Int) <;> simp [e]
theorem bucket_len (ps : List (List Sp)) (b : Nat) : (bucket ps b).length ≤ ps.length := List.length_filter_le _ _
theorem sortTo_len (ps : List (List Sp)) : ∀ n, (sortTo ps n).length ≤ n * ps.length
  | 0 => by simp [sortTo]
  | n + 1 => by
    have h1 := sortTo_len ps n
    have h2 := bucket_len ps n
    rw [sortTo_succ, List.length_append, Nat.succ_mul]
    omega
theorem sortTo_sortF (fs : List (Nat → Bool)) : sortTo (fs.map spansOf) 256 = (sortF fs).map spansOf := by
  unfold sortTo sortF bucket
  rw [List.map_flatMap]
  congr 1
  funext i
  rw [List.filter_map]
  rfl
/-- a row of sets that lie elsewhere -/
structure SRow (w wr : World) (v : Value) (n : Nat) (acc : List (List Sp)) (L : List Value) : Prop where
  own : wr.ownsRow w.heap.size TSS 1 v n L
  len : n = acc.length
  lenL : L.length = acc.length
  el : ∀ (i : Nat) (xs : List Sp) (x : Value), acc[i]? = some xs → L[i]? = some x → ∃ B c, x = .slice B xs.length c ∧ Sps w 0 B c xs
theorem SRow.first (w : World) : SRow w (w.alloc (.cells #[] TSS)) (.slice (some ⟨w.heap.size, 0, none⟩) 0 0) 0 [] [] :=
  ⟨⟨rfl, .inr ⟨w.heap.size, 0, #[], rfl, Nat.le_refl _, heap_alloc_new w _, Nat.le_refl _, by unfold maxLen; omega, rfl, rfl⟩⟩, rfl, rfl, fun i xs x h => by simp at h⟩
theorem SRow.under {w wr wx : World} {v : Value} {n : Nat} {acc : List (List Sp)} {L : List Value} (h : SRow w wr v n acc L) (hb : Below wr.heap.size wr wx) : SRow w wx v n acc L := ⟨own_below h.own hb, h.len, h.lenL, h.el⟩
theorem SRow.snoc {w wr wE : World} {v v' : Value} {n : Nat} {acc : List (List Sp)} {L : List Value} {xs : List Sp} {B : Option Addr} {c : Nat} (h : SRow w wr v n acc L) (hs : Sps w 0 B c xs) (ho : wE.ownsRow w.heap.size TSS 1 v' (n + 1) (L ++ [.slice B xs.length c])) : SRow w wE v' (n + 1) (acc ++ [xs]) (L ++ [.slice B xs.length c]) := by
  refine ⟨ho, by rw [List.length_append, h.len]; rfl, by rw [List.length_append, List.length_append, h.lenL]; rfl, fun i ys x h1 h2 => ?_⟩
  by_cases e : i < acc.length
  · rw [List.getElem?_append_left e] at h1
    rw [List.getElem?_append_left (by rw [h.lenL]; exact e)] at h2
    exact h.el i ys x h1 h2
  · rw [List.getElem?_append_right (by omega)] at h1
    rw [List.getElem?_append_right (by rw [h.lenL]; omega), h.lenL] at h2
    have e0 : i - acc.length = 0 := by
      have := (List.getElem?_eq_some_iff.1 h1).1
      simpa using this
    rw [e0] at h1 h2
    simp at h1 h2
    subst h1 h2
    exact ⟨B, c, rfl, hs⟩
theorem SRow.ssv {w wr : World} {v : Value} {n : Nat} {acc : List (List Sp)} {L : List Value} (h : SRow w wr v n acc L) (hb : Below w.heap.size w wr) (hn : acc.length ≤ maxN) : ∃ K ck, v = .slice K acc.length ck ∧ SSV wr 0 K ck acc := by
  obtain ⟨K, ck, rfl, hck, hrow⟩ := own_row h.own
  have hlen := h.len
  refine ⟨K, ck, by rw [hlen], ⟨fun i xs hi => ?_, by omega, hn⟩⟩
  have hl := (List.getElem?_eq_some_iff.1 hi).1
  have hx : L[i]? = some (L[i]'(by rw [h.lenL]; exact hl)) := List.getElem?_eq_getElem _
  obtain ⟨B, c, e, hs⟩ := h.el i xs _ hi hx
  rcases hrow with h0 | ⟨a, rfl, ha, hc⟩
  · exfalso
    have h1 := h.lenL
    rw [h0] at h1
    simp at h1
    omega
  · refine ⟨a, B, c, rfl, Nat.zero_le _, ?_, hs.below hb⟩
    rw [hc i _ hx, e]

end Go.Proofs.Ytplhbjpkkhhilaa

/- l1Sort of the reference, walked. -/
namespace Go.Proofs.Ytplhbjpkkhhilaa
set_option linter.unusedSimpArgs false
set_option linter.unusedVariables false
open Go.RowKit

set_option maxRecDepth 100000 in
set_option maxHeartbeats 2000000 in
theorem sSort_c (ps : List (List Sp)) (K : Option Addr) (ck : Nat) (w : World) {lo : Nat} (h : SSV w lo K ck ps) (hn : ps.length ≤ 100000) :
    Calls Try.prog 49 #[.slice K ps.length ck] w fun e w' => ∃ K' ck', e = .returned (.slice K' (sortTo ps 256).length ck') ∧ SSV w' 0 K' ck' (sortTo ps 256) ∧ Below w.heap.size w w' := by
  have HP := Lib.hid h
  have HO := Lib.hid (SRow.first w)
  have HB0 : Hid (Below w.heap.size w (w.alloc (.cells #[] TSS))) := below_alloc (Below.refl _ _) _
  obtain ⟨i1, hi, hz0, hza, hz2⟩ := info_parts infoSS
  clear h
  go_enter Try.func49, Try.ntmps49
  go_wp2_with fail
  go_loopg [3, 4] 256 (fun n v3 v4 wr => ∃ b : Nat, b + n = 256 ∧ v4 = .int .i64 b ∧ ∃ (A2 : Option Addr) (n2 c2 : Nat) (L : List Value), v3 = .slice A2 n2 c2 ∧ Hid (SRow w wr (.slice A2 n2 c2) n2 (sortTo ps b) L) ∧ Hid (Below w.heap.size w wr))
  case atStart => exact ⟨0, rfl, rfl, _, _, _, _, rfl, HO, HB0⟩
  case round =>
    clear HO HB0
    obtain ⟨b, hb, rfl, A2, n2, c2, L, rfl, HR, HB⟩ := hrel
    by_cases hlt : b < 256
    · have hlt' : (b : Int) < 256 := by omega
      have hsl := sortTo_len ps b
      have hsl2 : b * ps.length ≤ 256 * 100000 := Nat.mul_le_mul (by omega) hn
      go_wp2_with fail
      obtain ⟨gO, hgO⟩ : ∃ x, x = gk := ⟨_, rfl⟩
      rw [← hgO] at hb
      go_loopg [3, 5] (ps.length) (fun n v3 v5 wx => ∃ j : Nat, j + n = ps.length ∧ v5 = .int .i64 j ∧ ∃ (A3 : Option Addr) (n3 c3 : Nat) (L3 : List Value), v3 = .slice A3 n3 c3 ∧ Hid (SRow w wx (.slice A3 n3 c3) n3 (sortTo ps b ++ bucket (ps.take j) b) L3) ∧ Hid (Below w.heap.size w wx))
      case atStart => exact ⟨0, by omega, rfl, _, _, _, _, rfl, by simpa [bucket] using HR, HB⟩
      case round =>
        clear HR HB
        obtain ⟨j, hj, rfl, A3, n3, c3, L3, rfl, HR, HB⟩ := hrel
        by_cases hjl : j < ps.length
        · obtain ⟨a, B, q, p, rfl, HX, HV, c0⟩ := HP.out.at_ j hjl
          have hbl := bucket_len (ps.take j) b
          rw [List.length_take] at hbl
          have hn3 : n3 ≤ 30000000 := by have := HR.out.len; rw [List.length_append] at this; omega
          have i0 : (0 : Int) ≤ (j : Int) := by omega
          have i1' : (j : Int) < (ps.length : Int) := by omega
          have c1 := (HB.out.cell (World.block_lt_of_cell? w _ c0)).trans c0
          have C0 := Lib.hid c0
          clear c0
          go_wp2_with fail
          refine (sSetFirst_c _ _ p wr (HV.out.below HB.out)).mono ?_
          rintro e w1 ⟨rfl, d1⟩
          have b1 := d1.below
          have B1 := Lib.hid (below_then HB.out b1)
          have HR1 := Lib.hid (HR.out.under b1)
          have hzb : w.heap.size ≤ w1.heap.size := B1.out.size
          clear c1 d1 b1 HR HB
          have c1 := (B1.out.cell (World.block_lt_of_cell? w _ C0.out)).trans C0.out
          by_cases hf : setFirst p = (b : Int)
          · have HT : Hid (bucket (ps.take (j + 1)) b = bucket (ps.take j) b ++ [p]) := by show _ = _; rw [bucket_take b HX.out, if_pos hf]
            rw [hf]
            clear hf
            go_wp2_with (at_builtin; refine wpList_append_row (by rfl) (.tmp 24) (.tmp 29) 23 (by rfl) w.heap.size TSS i1 nilS 1 24 Try.underlying23 hi hz0 hza hz2 rfl (by decide) (.slice A3 n3 c3) n3 L3 (by rfl) (own_below HR1.out.own (below_alloc (Below.refl _ _) _)) (some ⟨w1.heap.size, 0, none⟩) 1 1 [.slice B p.length q] (by rfl) (.inr ⟨⟨w1.heap.size, 0, none⟩, rfl, Nat.zero_le _, new_cells w1 [.slice B p.length q] TSS⟩) rfl (slice_one _ _ _) (by unfold maxLen; omega) (by omega) (by simp; omega) _ rfl (n3 + 1) rfl ?_; intro A5 c5 wE hown hgrow hat; have HN := Lib.hid (HR1.out.snoc (HV.out.lower (Nat.zero_le _)) hown); have BE : Hid (Below w.heap.size w wE) := (below_alloc B1.out _).grown hgrow (by simp; omega) (fun q' hq => (own_vlt HR1.out.own q' (mem_vblk.2 hq)).1); clear hown hgrow hat)
            clear c1
            go_roundg (gk - 1)
            case rel => exact ⟨j + 1, by omega, by go_num, A5, n3 + 1, c5, _, rfl, by show SRow _ _ _ _ _ _; rw [HT.out, ← List.append_assoc]; exact HN.out, BE⟩
            case measure => omega
          · have HT : Hid (bucket (ps.take (j + 1)) b = bucket (ps.take j) b) := by show _ = _; rw [bucket_take b HX.out, if_neg hf, List.append_nil]
            have hf' : (setFirst p == (b : Int)) = false := by simp [hf]
            clear c1
            go_wp2
            go_roundg (gk - 1)
            case rel => exact ⟨j + 1, by omega, by go_num, A3, n3, c3, L3, rfl, by show SRow _ _ _ _ _ _; rw [HT.out]; exact HR1.out, B1⟩
            case measure => omega
        · have hj' : j = ps.length := by omega
          subst hj'
          go_wp2
          go_roundg (gO - 1)
          case rel => exact ⟨b + 1, by omega, by go_num, A3, n3, c3, L3, rfl, by show SRow _ _ _ _ _ _; rw [sortTo_succ]; have := HR.out; rw [List.take_length] at this; exact this, HB⟩
          case measure => omega
    · have hb' : b = 256 := by omega
      subst hb'
      have hsl := sortTo_len ps 256
      obtain ⟨K', ck', e, hs⟩ := HR.out.ssv HB.out (by unfold maxN; omega)
      injection e with e1 e2 e3
      subst e1 e3
      have HS := Lib.hid hs
      have HE := Lib.hid e2
      clear hs e2
      go_wp2
      go_ret
      refine ⟨A2, c2, ?_, HS.out, HB.out⟩
      show Ending.returned (Value.slice A2 n2 c2) = _
      rw [HE.out]

end Go.Proofs.Ytplhbjpkkhhilaa

/- SetParts of the reference. -/
namespace Go.Proofs.Ytplhbjpkkhhilaa
set_option linter.unusedSimpArgs false
set_option linter.unusedVariables false
open Go.RowKit

/-- the parts that some sets make -/
def iterF : List (List Sp) → List (Nat → Bool) → List (Nat → Bool)
  | [], fs => fs
  | s :: xss, fs => iterF xss (ref1 (fun y => setHas s (y : Int)) fs)
theorem iterF_snoc (xss : List (List Sp)) (s : List Sp) : ∀ fs, iterF (xss ++ [s]) fs = ref1 (fun y => setHas s (y : Int)) (iterF xss fs) := by
  induction xss with
  | nil => intro fs; rfl
  | cons a l ih => intro fs; exact ih _
def countB (f : Nat → Bool) : List Nat → Nat
  | [] => 0
  | x :: l => (if f x then 1 else 0) + countB f l
def countF (fs : List (Nat → Bool)) : List Nat → Nat
  | [] => 0
  | x :: l => (fs.filter fun f => f x).length + countF fs l
theorem countF_cons (f : Nat → Bool) (fs : List (Nat → Bool)) : ∀ l, countF (f :: fs) l = countB f l + countF fs l
  | [] => rfl
  | x :: l => by
    have := countF_cons f fs l
    rw [countF, countF, countB, this, List.filter_cons]
    split <;> simp <;> omega
theorem countB_pos {f : Nat → Bool} : ∀ {l : List Nat}, l.any f = true → 1 ≤ countB f l
  | [], h => by simp at h
  | x :: l, h => by
    rw [countB]
    rw [List.any_cons, Bool.or_eq_true] at h
    rcases h with h | h
    · rw [if_pos h]; omega
    · have := countB_pos h; omega
theorem len_countF : ∀ fs : List (Nat → Bool), (∀ f ∈ fs, someB f = true) → fs.length ≤ countF fs (List.range 256)
  | [], _ => Nat.zero_le _
  | f :: fs, h => by
    have h1 := len_countF fs fun g hg => h g (by simp [hg])
    have h2 := countB_pos (h f (by simp))
    rw [countF_cons, List.length_cons]
    omega
theorem countF_inv {xss : List (List Sp)} {fs : List (Nat → Bool)} (h : Inv xss fs) : ∀ l : List Nat, (∀ x ∈ l, x < 256) → countF fs l = l.length
  | [], _ => rfl
  | x :: l, hl => by
    obtain ⟨g, hg, _⟩ := h x (hl x (by simp))
    rw [countF, hg, countF_inv h l fun y hy => hl y (by simp [hy])]
    simp; omega
theorem inv_len {xss : List (List Sp)} {fs : List (Nat → Bool)} (h : Inv xss fs) (hs : ∀ f ∈ fs, someB f = true) : fs.length ≤ 256 := by
  have h1 := len_countF fs hs
  rw [countF_inv h _ fun x hx => List.mem_range.1 hx, List.length_range] at h1
  exact h1
theorem cut1_some (g f : Nat → Bool) : ∀ h ∈ cut1 g f, someB h = true := by
  intro h hh
  unfold cut1 at hh
  rcases List.mem_append.1 hh with h1 | h1
  · split at h1
    · rename_i h2; rw [List.mem_singleton.1 h1]; exact h2
    · simp at h1
  · split at h1
    · rename_i h2; rw [List.mem_singleton.1 h1]; exact h2
    · simp at h1
theorem ref1_some (g : Nat → Bool) (fs : List (Nat → Bool)) : ∀ h ∈ ref1 g fs, someB h = true := by
  intro h hh
  unfold ref1 at hh
  obtain ⟨f, _, hf⟩ := List.mem_flatMap.1 hh
  exact cut1_some g f h hf
def allF : List (Nat → Bool) := [fun _ => true]
theorem allF_spans : allF.map spansOf = [[⟨0, 255⟩]] := by
  show [spansOf fun _ => true] = _
  rw [show (spansOf fun _ => true) = [⟨0, 255⟩] by decide +kernel]
theorem allF_some : ∀ f ∈ allF, someB f = true := by
  intro f hf
  rw [List.mem_singleton.1 hf]
  decide +kernel
structure PInv (xss : List (List Sp)) (fs : List (Nat → Bool)) : Prop where
  inv : Inv xss fs
  some : ∀ f ∈ fs, someB f = true
theorem PInv.first : PInv [] allF := ⟨inv_first, allF_some⟩
theorem PInv.step {xss : List (List Sp)} {fs : List (Nat → Bool)} (h : PInv xss fs) (s : List Sp) : PInv (xss ++ [s]) (ref1 (fun y => setHas s (y : Int)) fs) := ⟨inv_step s h.inv, ref1_some _ _⟩
theorem setParts_ok {xss : List (List Sp)} {fs : List (Nat → Bool)} (h : PInv xss fs) (hok : ∀ s ∈ xss, setOk s = true) : sortTo (fs.map spansOf) 256 = setParts xss := by
  rw [sortTo_sortF, sort_eq h.inv, setParts, if_pos (List.all_eq_true.2 hok)]
theorem setParts_no {xss : List (List Sp)} {s : List Sp} (hs : s ∈ xss) (h : setOk s = false) : setParts xss = [] := by
  rw [setParts, if_neg]
  intro h2
  have := List.all_eq_true.1 h2 s hs
  rw [h] at this
  cases this
/-- the first row: one set, all bytes -/
theorem ssv_first (w : World) : SSV ((w.alloc (.cells #[.int .i64 0, .int .i64 255] TSp)).alloc (.cells #[.slice (some ⟨w.heap.size, 0, none⟩) 1 1] TSS)) 0 (some ⟨w.heap.size + 1, 0, none⟩) 1 [[⟨0, 255⟩]] := by
  have ho : OwnSp (w.alloc (.cells #[.int .i64 0, .int .i64 255] TSp)) w.heap.size (.slice (some ⟨w.heap.size, 0, none⟩) 1 1) [⟨0, 255⟩] :=
    ⟨own_of_blk (cs := [.int .i64 0, .int .i64 255]) (n := 1) (blk_new w #[.int .i64 0, .int .i64 255] TSp) (by simp) (Nat.le_refl _) (by decide), by simp [maxN]⟩
  obtain ⟨A, c, e, hs⟩ := ho.sps
  injection e with e1 e2 e3
  subst e1 e3
  have hb := blk_new (w.alloc (.cells #[.int .i64 0, .int .i64 255] TSp)) #[.slice (some ⟨w.heap.size, 0, none⟩) 1 1] TSS
  rw [show (w.alloc (.cells #[.int .i64 0, .int .i64 255] TSp)).heap.size = w.heap.size + 1 by simp] at hb
  refine ⟨fun i xs hi => ?_, Nat.le_refl _, by simp [maxN]⟩
  have h0 : i = 0 := by have := (List.getElem?_eq_some_iff.1 hi).1; simpa using this
  subst h0
  simp at hi
  subst hi
  exact ⟨⟨w.heap.size + 1, 0, none⟩, some ⟨w.heap.size, 0, none⟩, 1, rfl, Nat.zero_le _, (hb.cell 0).trans rfl, (hs.lower (Nat.zero_le _)).below (below_alloc (Below.refl _ _) _)⟩

end Go.Proofs.Ytplhbjpkkhhilaa

/- SetParts of the reference, walked. -/
namespace Go.Proofs.Ytplhbjpkkhhilaa
set_option linter.unusedSimpArgs false
set_option linter.unusedVariables false
open Go.RowKit

set_option maxRecDepth 100000 in
set_option maxHeartbeats 2000000 in
theorem sSetParts_c (xss : List (List Sp)) (K : Option Addr) (ck : Nat) (w : World) {lo : Nat} (h : SSV w lo K ck xss) :
    Calls Try.prog 13 #[.slice K xss.length ck] w fun e w' => ∃ K' ck', e = .returned (.slice K' (setParts xss).length ck') ∧ SSV w' 0 K' ck' (setParts xss) ∧ Below w.heap.size w w' := by
  have hlen := h.len
  unfold maxN at hlen
  have HP := Lib.hid h
  have HO : Hid (SSV ((w.alloc (.cells #[.int .i64 0, .int .i64 255] TSp)).alloc (.cells #[.slice (some ⟨w.heap.size, 0, none⟩) 1 1] TSS)) 0 (some ⟨w.heap.size + 1, 0, none⟩) 1 (allF.map spansOf)) := by rw [allF_spans]; exact ssv_first w
  have HB0 : Hid (Below w.heap.size w ((w.alloc (.cells #[.int .i64 0, .int .i64 255] TSp)).alloc (.cells #[.slice (some ⟨w.heap.size, 0, none⟩) 1 1] TSS))) := below_alloc (below_alloc (Below.refl _ _) _) _
  have HL0 : Hid ((allF.map spansOf).length = 1) := rfl
  clear h
  go_enter Try.func13, Try.ntmps13
  go_wp2_with fail
  go_loopg [3, 4] (xss.length) (fun n v3 v4 wr => ∃ j : Nat, j + n = xss.length ∧ v4 = .int .i64 j ∧ ∃ (fs : List (Nat → Bool)) (A2 : Option Addr) (n2 c2 : Nat), v3 = .slice A2 n2 c2 ∧ Hid (n2 = (fs.map spansOf).length) ∧ Hid (SSV wr 0 A2 c2 (fs.map spansOf)) ∧ Hid (PInv (xss.take j) fs) ∧ Hid (∀ s ∈ xss.take j, setOk s = true) ∧ Hid (Below w.heap.size w wr))
  case atStart => exact ⟨0, by omega, rfl, allF, _, _, _, rfl, HL0.out.symm, HO, PInv.first, fun s hs => by simp at hs, HB0⟩
  case round =>
    clear HO HB0 HL0
    obtain ⟨j, hj, rfl, fs, A2, n2, c2, rfl, HN, HO, HI, HK, HB⟩ := hrel
    by_cases hlt : j < xss.length
    · have hlt' : (j : Int) < (xss.length : Int) := by omega
      have i0 : (0 : Int) ≤ (j : Int) := by omega
      obtain ⟨a, B, q, p, rfl, HX, HV, c0⟩ := HP.out.at_ j hlt
      have c1 := (HB.out.cell (World.block_lt_of_cell? w _ c0)).trans c0
      have C0 := Lib.hid c0
      clear c0
      go_wp2_with fail
      refine (sSetOk_c _ _ p wr (HV.out.below HB.out)).mono ?_
      rintro e w1 ⟨rfl, d1⟩
      have B1 := Lib.hid (below_then HB.out d1.below)
      have HO1 := Lib.hid (HO.out.below d1.below)
      clear c1 d1
      by_cases hok : setOk p = true
      · have HOK := Lib.hid hok
        rw [hok]
        clear hok
        have c1 := (B1.out.cell (World.block_lt_of_cell? w _ C0.out)).trans C0.out
        have hfl := inv_len HI.out.inv HI.out.some
        have HT : Hid (xss.take (j + 1) = xss.take j ++ [p]) := by show _ = _; rw [List.take_add_one, HX.out]; rfl
        go_wp2_with fail
        rw [HN.out]
        refine (sParts_c (fs.map spansOf) p _ _ _ _ w1 HO1.out (HV.out.below B1.out) (by rw [List.length_map]; omega)).mono ?_
        rintro e w2 ⟨v, fp, L, rfl, ho, hf, b2⟩
        rw [parts_spans HOK.out] at ho
        obtain ⟨K3, c3, rfl, hs⟩ := ho.ssv
        have HS := Lib.hid hs
        have B2 := Lib.hid (below_then B1.out b2)
        clear c1 ho hf b2 hs
        go_wp2
        go_roundg (gk - 1)
        case rel =>
          refine ⟨j + 1, by omega, by go_num, ref1 (fun y => setHas p (y : Int)) fs, K3, _, c3, rfl, (by show _ = _; simp), HS, ?_, ?_, B2⟩
          · show PInv _ _; rw [HT.out]; exact HI.out.step p
          · intro s hs
            rw [HT.out] at hs
            rcases List.mem_append.1 hs with h1 | h1
            · exact HK.out s h1
            · rw [List.mem_singleton.1 h1]; exact HOK.out
        case measure => omega
      · have hf : setOk p = false := by simpa using hok
        have E : Hid (setParts xss = []) := setParts_no (List.mem_of_getElem? HX.out) hf
        rw [hf]
        clear hok hf
        go_wp2
        go_ret
        refine ⟨some ⟨w1.heap.size, 0, none⟩, 0, by rw [E.out]; rfl, ?_, below_alloc B1.out _⟩
        rw [E.out]
        exact ⟨fun i xs hi => by simp at hi, Nat.le_refl _, by simp⟩
    · have hj' : j = xss.length := by omega
      subst hj'
      rw [List.take_length] at HI HK
      have E := Lib.hid (setParts_ok HI.out HK.out)
      have hfl := inv_len HI.out.inv HI.out.some
      go_wp2_with fail
      rw [HN.out]
      refine (sSort_c (fs.map spansOf) _ _ wr HO.out (by rw [List.length_map]; omega)).mono ?_
      rintro e w2 ⟨K', ck', rfl, hs, b2⟩
      rw [E.out] at hs ⊢
      have HS := Lib.hid hs
      clear hs
      go_wp2
      go_ret
      exact ⟨K', ck', rfl, HS.out, below_then HB.out b2⟩

end Go.Proofs.Ytplhbjpkkhhilaa

/- buildSlice of one great element. -/
namespace Go.Proofs.Ytplhbjpkkhhilaa
set_option linter.unusedSimpArgs false
set_option linter.unusedVariables false
open Go.RowKit

theorem foldSet : ∀ (l : List Value) (k : Nat) (zs : Array Value), k + l.length ≤ zs.size → ((l.zipIdx k).foldl (fun (cs : Array Value) (x : Value × Nat) => cs.setIfInBounds (0 + x.2) x.1) zs).toList = zs.toList.take k ++ l ++ zs.toList.drop (k + l.length)
  | [], k, zs, h => by simp
  | c :: l, k, zs, h => by
    have hk : k < zs.size := by simp at h; omega
    have ih := foldSet l (k + 1) (zs.setIfInBounds (0 + k) c) (by rw [Array.size_setIfInBounds]; simp at h; omega)
    rw [List.zipIdx_cons, List.foldl_cons, ih, Array.toList_setIfInBounds, Nat.zero_add, List.take_add_one, List.take_set_of_le (Nat.le_refl _), List.getElem?_set_self (by rw [Array.length_toList]; exact hk), List.drop_set_of_lt (by omega), List.length_cons]
    simp [Nat.add_comm, Nat.add_left_comm]
theorem fill_one (cs z : Array Value) (n : Nat) (hn : cs.size = n) (hz : z.size = n) : Instr.fill (fun i => some (i * n, n)) z [(0, .agg cs)] = some cs := by
  have h1 : ¬ ((Value.agg cs).cells.size ≠ n ∨ 0 * n + (Value.agg cs).cells.size > z.size) := by
    show ¬ (cs.size ≠ n ∨ 0 * n + cs.size > z.size)
    omega
  simp only [Instr.fill]
  rw [if_neg (by simpa using h1)]
  congr 1
  show cs.zipIdx.foldl (fun cs x => cs.setIfInBounds (0 * n + x.2) x.1) z = cs
  rw [Nat.zero_mul]
  apply Array.toList_inj.1
  rw [← Array.foldl_toList, Array.toList_zipIdx, foldSet _ 0 z (by rw [Array.length_toList]; omega)]
  simp
  omega
theorem wp_build1 {P : Program} {o : Oper} {a : Act} {w : World} {K : Act → World → Prop} {Q : Exit → Act → World → Prop} (t e : TypeId) (x : Operand) (ho : o.op = .buildSlice t 1 #[(0, x)])
    (cs : Array Value) (ie : TypeInfo) (z : Value) (n : Nat) (hu : P.underlying t = some (.slice e)) (hie : P.info? e = some ie) (hz : ie.zero = some z) (hn : ie.size = n) (h0 : 0 < n) (h1 : n ≤ 65536) (hcs : cs.size = n) (hx : a.eval x = .agg cs)
    (h : K (a.put o.dst (.slice (some ⟨w.heap.size, 0, none⟩) 1 1)) (w.alloc (.cells cs e))) : o.wp P a w K Q := by
  refine wp_buildSlice t e 1 #[(0, x)] ho cs ie z hu hie hz (by rw [hn]; omega) (by rw [hn]; omega) ?_ h
  rw [hn]
  have e1 : ((#[((0 : Nat), x)] : Array (Nat × Operand)).map fun (i, x) => (i, a.eval x)).toList = [(0, .agg cs)] := by simp [hx]
  rw [e1]
  exact fill_one cs _ n hcs (by simp)

end Go.Proofs.Ytplhbjpkkhhilaa

/- SetParts of the program: what its loops keep. -/
namespace Go.Proofs.Ytplhbjpkkhhilaa
set_option linter.unusedSimpArgs false
set_option linter.unusedVariables false
open Go.RowKit

/-! ### the first bytes of the parts -/
def reps (xss : List (List Sp)) (b : Nat) : List Nat := (List.range b).filter fun x => isRep xss x
theorem reps_lt {xss : List (List Sp)} {b r : Nat} (h : r ∈ reps xss b) : r < b := List.mem_range.1 (List.mem_filter.1 h).1
theorem reps_rep {xss : List (List Sp)} {b r : Nat} (h : r ∈ reps xss b) : isRep xss r = true := (List.mem_filter.1 h).2
theorem reps_yes {xss : List (List Sp)} {b : Nat} (h : isRep xss b = true) : reps xss (b + 1) = reps xss b ++ [b] := by
  unfold reps
  rw [List.range_succ, List.filter_append]
  simp [h]
theorem reps_no {xss : List (List Sp)} {b : Nat} (h : isRep xss b = false) : reps xss (b + 1) = reps xss b := by
  unfold reps
  rw [List.range_succ, List.filter_append]
  simp [h]
theorem reps_len (xss : List (List Sp)) (b : Nat) : (reps xss b).length ≤ b := by
  have := List.length_filter_le (fun x => isRep xss x) (List.range b)
  rw [List.length_range] at this
  exact this
theorem isRep_iff {xss : List (List Sp)} {x : Nat} : isRep xss x = true ↔ ∀ y, y < x → key xss y ≠ key xss x := by
  unfold isRep
  rw [List.all_eq_true]
  constructor
  · intro h y hy
    simpa using h y (List.mem_range.2 hy)
  · intro h y hy
    simpa using h y (List.mem_range.1 hy)
theorem rep_exists (xss : List (List Sp)) : ∀ y, ∃ r, r ≤ y ∧ isRep xss r = true ∧ key xss r = key xss y := by
  intro y
  induction y using Nat.strongRecOn with
  | ind y ih =>
    cases h : isRep xss y with
    | true => exact ⟨y, Nat.le_refl _, h, rfl⟩
    | false =>
      have h2 : ¬ ∀ z, z < y → key xss z ≠ key xss y := fun h3 => by rw [isRep_iff.2 h3] at h; cases h
      have h4 : ∃ z, z < y ∧ key xss z = key xss y := Classical.byContradiction fun h5 => h2 fun z hz e => h5 ⟨z, hz, e⟩
      obtain ⟨z, hz, e⟩ := h4
      obtain ⟨r, hr, h6, h7⟩ := ih z hz
      exact ⟨r, by omega, h6, h7.trans e⟩
theorem rep_none {xss : List (List Sp)} {b : Nat} (h : ∀ (i r : Nat), (reps xss b)[i]? = some r → key xss r ≠ key xss b) : isRep xss b = true := by
  refine isRep_iff.2 fun y hy e => ?_
  obtain ⟨r, hr, h1, h2⟩ := rep_exists xss y
  have hm : r ∈ reps xss b := List.mem_filter.2 ⟨List.mem_range.2 (by omega), h1⟩
  obtain ⟨i, hi⟩ := List.mem_iff_getElem?.1 hm
  exact h i r hi (h2.trans e)
theorem rep_some {xss : List (List Sp)} {b i r : Nat} (h : (reps xss b)[i]? = some r) (hk : key xss r = key xss b) : isRep xss b = false := by
  rw [Bool.eq_false_iff]
  exact fun h2 => isRep_iff.1 h2 r (reps_lt (List.mem_of_getElem? h)) hk
theorem rep_inj {xss : List (List Sp)} {b i j r s : Nat} (hi : (reps xss b)[i]? = some r) (hj : (reps xss b)[j]? = some s) (hk : key xss r = key xss s) : i = j := by
  have hr := reps_rep (List.mem_of_getElem? hi)
  have hs := reps_rep (List.mem_of_getElem? hj)
  have e : r = s := by
    rcases Nat.lt_trichotomy r s with h | h | h
    · exact absurd hk (isRep_iff.1 hs r h)
    · exact h
    · exact absurd hk.symm (isRep_iff.1 hr s h)
  subst e
  have nd : (reps xss b).Nodup := List.Pairwise.sublist List.filter_sublist List.nodup_range
  obtain ⟨h1, e1⟩ := List.getElem?_eq_some_iff.1 hi
  obtain ⟨h2, e2⟩ := List.getElem?_eq_some_iff.1 hj
  exact (List.getElem_inj nd).1 (e1.trans e2.symm)

/-! ### rows of bits -/
theorem flat_set (f g : Nat → Nat → Bool) : ∀ (rs : List Nat) (i b : Nat), b < 256 → i < rs.length → (∀ (j r : Nat), rs[j]? = some r → ∀ y, y < 256 → g r y = if j = i ∧ y = b then true else f r y) → (rs.flatMap fun r => bitCells (f r)).set (i * 256 + b) (.bool true) = rs.flatMap fun r => bitCells (g r)
  | [], i, b, hb, hi, h => by simp at hi
  | r :: rs, i, b, hb, hi, h => by
    rw [List.flatMap_cons, List.flatMap_cons, List.set_append, bitCells_length]
    cases i with
    | zero =>
      rw [if_pos (by omega), Nat.zero_mul, Nat.zero_add, bitCells_set]
      congr 1
      · refine bitCells_congr fun y hy => ?_
        rw [h 0 r rfl y hy]
        simp
      · have h2 : ∀ s ∈ rs, bitCells (f s) = bitCells (g s) := by
          intro s hs
          obtain ⟨j, hj⟩ := List.mem_iff_getElem?.1 hs
          refine bitCells_congr fun y hy => ?_
          rw [h (j + 1) s hj y hy]
          simp
        clear h hi
        induction rs with
        | nil => rfl
        | cons s rs ih => rw [List.flatMap_cons, List.flatMap_cons, h2 s (by simp), ih fun u hu => h2 u (by simp [hu])]
    | succ i =>
      rw [if_neg (by omega), show (i + 1) * 256 + b - 256 = i * 256 + b by omega]
      congr 1
      · refine bitCells_congr fun y hy => ?_
        rw [h 0 r rfl y hy]
        simp
      · refine flat_set f g rs i b hb (by simpa using hi) fun j s hj y hy => ?_
        rw [h (j + 1) s hj y hy]
        simp
theorem flat_get {α : Type} (f : α → Nat → Bool) : ∀ (rs : List α) (i : Nat) (r : α), rs[i]? = some r → ∀ (j : Nat) (u : Value), (bitCells (f r))[j]? = some u → (rs.flatMap fun r => bitCells (f r))[i * 256 + j]? = some u
  | [], i, r, hi, j, u, hj => by simp at hi
  | s :: rs, i, r, hi, j, u, hj => by
    have hl : j < 256 := by have := (List.getElem?_eq_some_iff.1 hj).1; rw [bitCells_length] at this; exact this
    rw [List.flatMap_cons]
    cases i with
    | zero =>
      obtain rfl := Option.some.inj hi
      rw [Nat.zero_mul, Nat.zero_add, List.getElem?_append_left (by rw [bitCells_length]; exact hl)]
      exact hj
    | succ i =>
      rw [List.getElem?_append_right (by rw [bitCells_length]; omega), bitCells_length, show (i + 1) * 256 + j - 256 = i * 256 + j by omega]
      exact flat_get f rs i r hi j u hj
theorem flat_len {α : Type} (f : α → Nat → Bool) : ∀ rs : List α, (rs.flatMap fun r => bitCells (f r)).length = rs.length * 256
  | [] => by simp
  | r :: rs => by
    rw [List.flatMap_cons, List.length_append, flat_len f rs, bitCells_length, List.length_cons]
    omega
/-- the parts of the bytes below b -/
def partF (xss : List (List Sp)) (b r y : Nat) : Bool := decide (y < b) && decide (key xss y = key xss r)
def partC (xss : List (List Sp)) (b : Nat) : List Value := (reps xss b).flatMap fun r => bitCells (partF xss b r)
theorem partC_len (xss : List (List Sp)) (b : Nat) : (partC xss b).length = (reps xss b).length * 256 := flat_len _ _
theorem partC_found {xss : List (List Sp)} {b i r : Nat} (hb : b < 256) (hi : (reps xss b)[i]? = some r) (hk : key xss r = key xss b) : (partC xss b).set (i * 256 + b) (.bool true) = partC xss (b + 1) := by
  unfold partC
  rw [reps_no (rep_some hi hk)]
  refine flat_set _ _ _ i b hb (List.getElem?_eq_some_iff.1 hi).1 fun j s hj y hy => ?_
  unfold partF
  by_cases e : j = i ∧ y = b
  · obtain ⟨rfl, rfl⟩ := e
    rw [hi] at hj
    obtain rfl := Option.some.inj hj
    simp [hk]
  · rw [if_neg e]
    by_cases e2 : y = b
    · subst e2
      have hne : ¬ key xss y = key xss s := fun h => e ⟨rep_inj hj hi (h.symm.trans hk.symm), rfl⟩
      simp [hne]
    · congr 1
      rw [Bool.eq_iff_iff, decide_eq_true_eq, decide_eq_true_eq]
      omega
theorem partC_new {xss : List (List Sp)} {b : Nat} (hb : b < 256) (h : isRep xss b = true) : (partC xss b ++ bitCells fun _ => false).set ((reps xss b).length * 256 + b) (.bool true) = partC xss (b + 1) := by
  unfold partC
  rw [reps_yes h]
  have e : ((reps xss b).flatMap fun r => bitCells (partF xss b r)) ++ (bitCells fun _ => false) = (reps xss b ++ [b]).flatMap fun r => bitCells (partF xss b r) := by
    rw [List.flatMap_append]
    congr 1
    rw [List.flatMap_cons, List.flatMap_nil, List.append_nil]
    refine bitCells_congr fun y hy => ?_
    unfold partF
    by_cases hyb : y < b
    · have := isRep_iff.1 h y hyb
      simp [this]
    · simp [hyb]
  rw [e]
  refine flat_set _ _ _ _ b hb (by simp) fun j s hj y hy => ?_
  unfold partF
  by_cases hjl : j < (reps xss b).length
  · rw [List.getElem?_append_left hjl] at hj
    rw [if_neg (by omega)]
    by_cases e2 : y = b
    · subst e2
      have hne : ¬ key xss y = key xss s := fun h2 => isRep_iff.1 h s (reps_lt (List.mem_of_getElem? hj)) h2.symm
      simp [hne]
    · congr 1
      rw [Bool.eq_iff_iff, decide_eq_true_eq, decide_eq_true_eq]
      omega
  · have hjl2 : j = (reps xss b).length := by have := (List.getElem?_eq_some_iff.1 hj).1; simp at this; omega
    subst hjl2
    rw [List.getElem?_append_right (Nat.le_refl _), Nat.sub_self] at hj
    obtain rfl := Option.some.inj hj
    by_cases e2 : y = b
    · subst e2
      simp
    · rw [if_neg (by omega)]
      congr 1
      rw [Bool.eq_iff_iff, decide_eq_true_eq, decide_eq_true_eq]
      omega

/-! ### all sets agree -/
def allE (xss : List (List Sp)) (b f k : Nat) : Bool := (xss.take k).all fun s => setHas s (b : Int) == setHas s (f : Int)
theorem allE_zero (xss : List (List Sp)) (b f : Nat) : allE xss b f 0 = true := rfl
theorem allE_succ {xss : List (List Sp)} {b f k : Nat} {p : List Sp} (h : xss[k]? = some p) : allE xss b f (k + 1) = (allE xss b f k && (setHas p (b : Int) == setHas p (f : Int))) := by
  unfold allE
  rw [List.take_add_one, h, List.all_append]
  simp
theorem allE_done (xss : List (List Sp)) (b f : Nat) {k : Nat} (hk : k = xss.length) : allE xss b f k = decide (key xss f = key xss b) := by
  unfold allE
  subst hk
  rw [List.take_length, Bool.eq_iff_iff, decide_eq_true_eq]
  unfold key
  induction xss with
  | nil => simp
  | cons s xss ih =>
    rw [List.all_cons, Bool.and_eq_true, ih, beq_iff_eq, List.map_cons, List.map_cons, List.cons.injEq]
    exact ⟨fun h => ⟨h.1.symm, h.2⟩, fun h => ⟨h.1.symm, h.2⟩⟩

theorem infoI64 : (Try.prog.info? 3).map (fun i => (i.zero, i.size, i.bytes)) = some (some (.int .i64 0), 1, 8) := by kernel_rfl
/-! ### in memory -/
theorem own_elem {α : Type} {f : α → Nat → Bool} {w : World} {base g n c : Nat} {rs : List α} {i : Nat} {r : α} (h : w.ownsRow base TBits 256 (.slice (some ⟨g, 0, none⟩) n c) n (rs.flatMap fun r => bitCells (f r))) (hi : rs[i]? = some r) :
    CellsAt w ((⟨g, 0, none⟩ : Addr).add (i * 256)) (bitCells (f r)) := by
  intro j u hj
  have hl : j < 256 := by have := (List.getElem?_eq_some_iff.1 hj).1; rw [bitCells_length] at this; exact this
  have hil := (List.getElem?_eq_some_iff.1 hi).1
  have hn := h.1
  rw [flat_len] at hn
  have e0 : ((⟨g, 0, none⟩ : Addr).add (i * 256)).add j = ⟨g, i * 256 + j, none⟩ := by unfold Addr.add; split <;> (try split) <;> simp_all <;> omega
  rw [e0, h.cellAt _ (by omega)]
  exact flat_get f rs i r hi j u hj
section
variable {P : Program} {ops : Array Oper} {rest : List Oper} {o : Oper} {a : Act} {w : World} {Q : Exit → Act → World → Prop}
theorem run_loadVar_at (w : World) (ad : Addr) (ty : TypeId) (cs : List Value) (hc : CellsAt w ad cs) (d : TypeDesc)
    (hu : P.underlying ty = some d) (hd : (match d with | .struct _ | .array _ _ => true | _ => false) = true) (hi : (P.info? ty).map (·.size) = some cs.length) :
    (loadVar ty ad).run P w = .ok (.agg cs.toArray) w := by
  have hl : (loadCells ad cs.length).run P w = .ok cs.toArray w := run_loadCells_list (P := P) w ad cs hc
  cases hq : P.info? ty with
  | none => simp [hq] at hi
  | some i =>
    have hs : i.size = cs.length := by simpa [hq] using hi
    have hagg : (isAgg ty).run P w = .ok true w := by
      unfold isAgg
      rw [Sem.run_bind, run_underlying hu w]
      cases d <;> simp_all
    simp [loadVar, Sem.run_bind, hagg, sizeOf, typeInfo, hq, hs, hl]
/-- a part of a block is read whole -/
theorem ev_load_at (hgd : o.guard = none) (t : TypeId) (x : Operand) (ho : o.op = .load t x) (ad : Addr) (hx : a.eval x = .pointer (some ad)) (cs : List Value) (hc : CellsAt w ad cs)
    (d : TypeDesc) (hu : P.underlying t = some d) (hd : (match d with | .struct _ | .array _ _ => true | _ => false) = true) (hs : (P.info? t).map (·.size) = some cs.length)
    (h : wpList P ops Q rest (a.put o.dst (.agg cs.toArray)) w) : wpList P ops Q (o :: rest) a w := by
  refine wpList_plain hgd fun K hK => ?_
  unfold Oper.wp execOp
  simp only [ho, hx, Instr.loadAt, Instr.sureAddr, Sem.run_bind, Sem.run_pure, Result.andThen_ok, run_loadVar_at w ad t cs hc d hu hd hs]
  exact hK _ _ h
theorem ev_move (hgd : o.guard = none) (x : Operand) (ho : o.op = .move x) (v : Value) (hx : a.eval x = v) (h : wpList P ops Q rest (a.put o.dst v) w) : wpList P ops Q (o :: rest) a w := by
  refine wpList_plain hgd fun K hK => ?_
  unfold Oper.wp execOp
  simp only [ho, hx]
  exact hK _ _ h
theorem ev_assign (hgd : o.guard = none) (x : Operand) (ho : o.op = .assign x) (v : Value) (hx : a.eval x = v) (h : wpList P ops Q rest (a.put o.dst v) w) : wpList P ops Q (o :: rest) a w := by
  refine wpList_plain hgd fun K hK => ?_
  unfold Oper.wp execOp
  simp only [ho, hx]
  exact hK _ _ h
/-- an array of zeros -/
theorem ev_zero_arr (hgd : o.guard = none) (t e : TypeId) (n size : Nat) (ho : o.op = .build t #[]) (hu : P.underlying t = some (.array n e)) (hsz : (P.info? e).map (·.size) = some size) (zs : Array Value)
    (hz : (P.info? t).map (·.zero) = some (some (.agg zs))) (h : wpList P ops Q rest (a.put o.dst (.agg zs)) w) : wpList P ops Q (o :: rest) a w := by
  refine wpList_plain hgd fun K hK => ?_
  obtain ⟨ie, hie, hs⟩ := Option.map_eq_some_iff.1 hsz
  obtain ⟨it, hit, hzz⟩ := Option.map_eq_some_iff.1 hz
  unfold Oper.wp execOp
  simp only [ho]
  simp [Instr.build, zeroValue, typeInfo, hit, hzz, run_underlying hu, sizeOf, hie, Instr.fill, Value.cells]
  exact hK _ _ h
theorem ev_build1 (hgd : o.guard = none) (t e : TypeId) (x : Operand) (ho : o.op = .buildSlice t 1 #[(0, x)])
    (cs : Array Value) (ie : TypeInfo) (z : Value) (n : Nat) (hu : P.underlying t = some (.slice e)) (hie : P.info? e = some ie) (hz : ie.zero = some z) (hn : ie.size = n) (h0 : 0 < n) (h1 : n ≤ 65536) (hcs : cs.size = n) (hx : a.eval x = .agg cs)
    (h : wpList P ops Q rest (a.put o.dst (.slice (some ⟨w.heap.size, 0, none⟩) 1 1)) (w.alloc (.cells cs e))) : wpList P ops Q (o :: rest) a w := by
  refine wpList_plain hgd fun K hK => ?_
  exact wp_build1 t e x ho cs ie z n hu hie hz hn h0 h1 hcs hx (hK _ _ h)
theorem ev_build_i (hgd : o.guard = none) (t e : TypeId) (x : Operand) (ho : o.op = .buildSlice t 1 #[(0, x)]) (kd : IntKind) (k : Int) (ie : TypeInfo) (z : Value) (hu : P.underlying t = some (.slice e)) (hie : P.info? e = some ie) (hz : ie.zero = some z) (hn : ie.size = 1) (hx : a.eval x = .int kd k)
    (h : wpList P ops Q rest (a.put o.dst (.slice (some ⟨w.heap.size, 0, none⟩) 1 1)) (w.alloc (.cells #[.int kd k] e))) : wpList P ops Q (o :: rest) a w := by
  refine wpList_plain hgd fun K hK => ?_
  refine wp_buildSlice t e 1 #[(0, x)] ho #[.int kd k] ie z hu hie hz (by rw [hn]; decide) (by rw [hn]; decide) ?_ (hK _ _ h)
  rw [hn]
  have e1 : ((#[((0 : Nat), x)] : Array (Nat × Operand)).map fun (i, x) => (i, a.eval x)).toList = [(0, .int kd k)] := by simp [hx]
  rw [e1]
  have e2 : (Array.range (1 * 1)).map (fun x => z.cells[x % z.cells.size]!) = #[z.cells[0]!] := by
    apply Array.ext
    · simp
    · intro i h1 h2
      have h3 : i = 0 := by simp at h2; omega
      subst h3
      simp
  rw [e2]
  simp [Instr.fill, Value.cells]
/-- the address of an element of a slice -/
theorem ev_index (hgd : o.guard = none) (t e : TypeId) (x i : Operand) (ho : o.op = .indexAddr t x i) (hu : P.underlying t = some (.slice e)) (size : Nat) (hsz : (P.info? e).map (·.size) = some size)
    (ad : Addr) (n c k : Nat) (kd : IntKind) (hx : a.eval x = .slice (some ad) n c) (hi : a.eval i = .int kd k) (hk : k < n)
    (h : wpList P ops Q rest (a.put o.dst (.pointer (some (ad.add (k * size))))) w) : wpList P ops Q (o :: rest) a w := by
  refine wpList_plain hgd fun K hK => ?_
  obtain ⟨ie, hie, hz⟩ := Option.map_eq_some_iff.1 hsz
  have hk' : (k : Int) < (n : Int) := by omega
  unfold Oper.wp execOp
  simp only [ho, hx, hi]
  simp [Instr.indexAt, run_underlying hu, asIntOf, hk', sizeOf, typeInfo, hie, hz, hk]
  exact hK _ _ h
end

end Go.Proofs.Ytplhbjpkkhhilaa

/- Lists of sets as arguments: szSpanSS, toSpanSS. -/
namespace Go.Proofs.Ytplhbjpkkhhilaa
set_option linter.unusedSimpArgs false
set_option linter.unusedVariables false
open Go.RowKit

def sumL : List (List Sp) → Nat
  | [] => 0
  | xs :: xss => xs.length + sumL xss
theorem sum_mem {xs : List Sp} : ∀ {xss : List (List Sp)}, xs ∈ xss → xs.length ≤ sumL xss
  | ys :: xss, h => by
    rw [sumL]
    rcases List.mem_cons.1 h with rfl | h
    · omega
    · have := sum_mem h; omega
theorem sum_drop {xss : List (List Sp)} {k : Nat} {xs : List Sp} (h : xss[k]? = some xs) : sumL (xss.drop k) = xs.length + sumL (xss.drop (k + 1)) := by
  have hk := (List.getElem?_eq_some_iff.1 h).1
  rw [List.drop_eq_getElem_cons hk, sumL]
  have : xss[k] = xs := by have := List.getElem?_eq_getElem hk; rw [this] at h; exact Option.some.inj h
  rw [this]
/-- a row of sets that is filled -/
structure SPart (w : World) (g lo : Nat) (cur : Array Value) (xss : List (List Sp)) (k : Nat) (L : List Value) : Prop where
  blk : Blk w g cur TSS
  size : cur.size = xss.length
  capm : xss.length ≤ maxLen
  len : L.length = k
  le : k ≤ xss.length
  cells : cur.toList.take k = L
  hr : ∀ (i : Nat) (xs : List Sp) (x : Value), xss[i]? = some xs → L[i]? = some x → OwnSp w 0 x xs
  nd : (g :: L.flatMap vblk).Nodup
  lo : ∀ b, b ∈ g :: L.flatMap vblk → lo ≤ b
theorem SPart.lt {w : World} {g lo : Nat} {cur : Array Value} {xss : List (List Sp)} {k : Nat} {L : List Value} (h : SPart w g lo cur xss k L) : ∀ b, b ∈ g :: L.flatMap vblk → b < w.heap.size := by
  intro b hb
  rcases List.mem_cons.1 hb with rfl | hb
  · exact h.blk.lt
  · obtain ⟨i, x, hx, hb⟩ := mem_vbs.1 hb
    have hi := (List.getElem?_eq_some_iff.1 hx).1
    have hl := h.len
    have hle := h.le
    exact ((h.hr i (xss[i]'(by omega)) x (List.getElem?_eq_getElem _) hx).lt b hb).2
theorem SPart.snoc {w w2 : World} {g lo : Nat} {cur : Array Value} {xss : List (List Sp)} {k : Nat} {L : List Value} {xs : List Sp} {v : Value} (h : SPart w g lo cur xss k L) (hk : xss[k]? = some xs) (b2 : Below w.heap.size w w2) (ho : OwnSp w2 w.heap.size v xs) (hlo : lo ≤ w.heap.size) :
    SPart (w2.setCell ⟨g, k, none⟩ v) g lo (cur.setIfInBounds k v) xss (k + 1) (L ++ [v]) := by
  have hklt := (List.getElem?_eq_some_iff.1 hk).1
  have hlen := h.len
  have hsz := h.size
  have hglt := h.blk.lt
  have stay : ∀ b, b ≠ g → (w2.setCell ⟨g, k, none⟩ v).heap[b]? = w2.heap[b]? := fun b hb => Below.heap_setCell _ _ _ _ hb
  refine ⟨(h.blk.below b2).set k v, by rw [Array.size_setIfInBounds]; exact hsz, h.capm, by simp [hlen], hklt, ?_, ?_, ?_, ?_⟩
  · rw [Array.toList_setIfInBounds, List.take_add_one, List.take_set_of_le (Nat.le_refl _), h.cells, List.getElem?_set_self (by rw [Array.length_toList]; omega)]
    rfl
  · intro i ys x hi hx
    by_cases e : i < L.length
    · rw [List.getElem?_append_left e] at hx
      have hT := h.hr i ys x hi hx
      refine (hT.stay fun b hb => b2.block b (hT.lt b hb).2).stay fun b hb => stay b fun e => ?_
      exact (List.nodup_cons.1 h.nd).1 (e ▸ mem_vbs.2 ⟨i, x, hx, hb⟩)
    · have e2 : i = L.length := by
        have := (List.getElem?_eq_some_iff.1 hx).1
        simp at this
        omega
      subst e2
      rw [hlen, hk] at hi
      obtain rfl := Option.some.inj hi
      simp at hx
      subst hx
      exact (ho.stay fun b hb => stay b fun e => by have := (ho.lt b hb).1; omega).lower (Nat.zero_le _)
  · rw [List.flatMap_append, ← List.cons_append]
    refine List.nodup_append.2 ⟨h.nd, by simpa using vblk_nodup v, fun a ha b hb e => ?_⟩
    have h1 := h.lt a ha
    have h2 := (ho.lt b (by simpa using hb)).1
    omega
  · rw [List.flatMap_append, ← List.cons_append]
    intro b hb
    rcases List.mem_append.1 hb with hb | hb
    · exact h.lo b hb
    · have := (ho.lt b (by simpa using hb)).1; omega
theorem SPart.done {w : World} {g lo : Nat} {cur : Array Value} {xss : List (List Sp)} {k : Nat} {L : List Value} (h : SPart w g lo cur xss k L) (hk : k = xss.length) : OwnSS w (g :: L.flatMap vblk) (.slice (some ⟨g, 0, none⟩) xss.length xss.length) xss L := by
  subst hk
  obtain ⟨hb, hs, hm, hl, _, hc, hr, nd, _⟩ := h
  exact ⟨hl.symm, ⟨by rw [hl, Nat.mul_one], .inr ⟨g, xss.length, cur, rfl, Nat.zero_le _, hb.eq, Nat.le_refl _, hm, by rw [hs, Nat.mul_one], by rw [Nat.mul_one]; exact hc⟩⟩, by unfold maxLen at hm; unfold maxN; omega, hr, rfl, nd⟩
theorem SPart.first {w : World} {g lo : Nat} {cur : Array Value} {xss : List (List Sp)} (hb : Blk w g cur TSS) (hs : cur.size = xss.length) (hm : xss.length ≤ maxLen) (hl : lo ≤ g) : SPart w g lo cur xss 0 [] :=
  ⟨hb, hs, hm, rfl, Nat.zero_le _, by simp, fun i r x _ h => by simp at h, by simp, fun b hb => by simp at hb; omega⟩

end Go.Proofs.Ytplhbjpkkhhilaa
