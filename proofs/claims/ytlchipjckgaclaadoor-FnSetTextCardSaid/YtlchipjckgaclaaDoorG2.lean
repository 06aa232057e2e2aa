/- Texts joined for the claims: Ty Rex Tree W1 W2 T1 T4. -/
import Derived.Test.YtlchipjckgaclaaDoorG1
import Derived.Deep.CutBlock
import Derived.Sort.Grow
import Derived.BigQuiet
import Derived.StillTailTactics
/- Sets as texts: plain; SetText of the reference. -/
namespace Go.Proofs.YtlchipjckgaclaaDoor
set_option linter.unusedSimpArgs false
set_option linter.unusedVariables false
set_option maxRecDepth 100000
open Go.RowKit

def spanTxt (x : Sp) : List UInt8 := Lib.itoa x.lo ++ (if x.hi = x.lo then [] else 45 :: Lib.itoa x.hi)
def accTxt (xs : List Sp) : List UInt8 := Lib.join (xs.map spanTxt) [44]
def setTxt (xs : List Sp) : List UInt8 := if xs.length = 0 then [110, 111] else accTxt xs
def sp64 (xs : List Sp) : Prop := ∀ x ∈ xs, in64 x.lo ∧ in64 x.hi
theorem acc_snoc (xs : List Sp) (x : Sp) : accTxt (xs ++ [x]) = (if xs.length = 0 then [] else accTxt xs ++ [44]) ++ spanTxt x := by
  unfold accTxt
  cases xs with
  | nil => simp [Lib.join_one]
  | cons y ys =>
    have e : Lib.join ((y :: ys).map spanTxt) [44] = spanTxt y ++ Lib.joinTail [44] (ys.map spanTxt) := by rw [List.map_cons, Lib.join_cons]
    rw [if_neg (by simp), e, List.cons_append, List.map_cons, Lib.join_cons, List.map_append]
    simp [Lib.joinTail]
theorem itoa_pos (n : Int) : 1 ≤ (Lib.itoa n).length := by
  unfold Lib.itoa
  split
  · simp
  · rw [Lib.decDigits_length, Lib.nDigits]
    split <;> omega
theorem span_len {x : Sp} (h : in64 x.lo ∧ in64 x.hi) : 1 ≤ (spanTxt x).length ∧ (spanTxt x).length ≤ 43 := by
  have h1 := Lib.itoa_length_le x.lo h.1.1 h.1.2
  have h2 := Lib.itoa_length_le x.hi h.2.1 h.2.2
  have h3 := itoa_pos x.lo
  unfold spanTxt
  rw [List.length_append]
  split
  · simp; omega
  · rw [List.length_cons]; omega
theorem take_snoc {xs : List Sp} {k : Nat} {x : Sp} (h : xs[k]? = some x) : xs.take (k + 1) = xs.take k ++ [x] := by rw [List.take_add_one, h]; rfl
theorem acc_len (xs : List Sp) (h : sp64 xs) : ∀ k, k ≤ xs.length → (accTxt (xs.take k)).length ≤ 44 * k
  | 0, _ => by simp [accTxt, Lib.join_nil]
  | k + 1, hk => by
    have h1 := acc_len xs h k (by omega)
    have hx : xs[k]? = some xs[k] := List.getElem?_eq_getElem (by omega)
    have h2 := (span_len (h _ (List.mem_of_getElem? hx))).2
    rw [take_snoc hx, acc_snoc, List.length_append]
    split
    · simp; omega
    · rw [List.length_append, List.length_singleton]; omega
theorem acc_pos {xs : List Sp} (h : sp64 xs) (hn : xs.length ≠ 0) : 1 ≤ (accTxt xs).length := by
  rcases List.eq_nil_or_concat xs with rfl | ⟨ys, y, rfl⟩
  · simp at hn
  · rw [List.concat_eq_append] at h ⊢
    have := (span_len (h y (by simp))).1
    rw [acc_snoc, List.length_append]
    omega
theorem sp64_take {xs : List Sp} (h : sp64 xs) (k : Nat) : sp64 (xs.take k) := fun x hx => h x (List.mem_of_mem_take hx)
theorem below_grow (w : World) (k : Nat) (os : Array Obj) : Below w.heap.size w (Go.Sort.grow (w.drewN k) os) := by
  have h := below_drewN (Below.refl w.heap.size w) k
  refine ⟨h.os, h.tape, h.output, Nat.le_trans h.size (by simp [Go.Sort.grow]), fun b hb => ?_⟩
  rw [← h.block b hb]
  show ((w.drewN k).heap ++ os)[b]? = _
  exact Array.getElem?_append_left (Nat.lt_of_lt_of_le hb h.size)
theorem str_empty (l : List UInt8) : (str l).toList.isEmpty = l.isEmpty := by
  rw [ByteArray.toList_eq]
  rfl
theorem str_app (l : List UInt8) (b : UInt8) : str l ++ (⟨#[b]⟩ : ByteArray) = str (l ++ [b]) := str_append l [b]

set_option maxRecDepth 100000 in
set_option maxHeartbeats 2000000 in
theorem sSetText_c (A : Option Addr) (c : Nat) (xs : List Sp) (w : World) {lo : Nat} (h : Sps w lo A c xs) (h64 : sp64 xs) (hn : xs.length ≤ 1048576) :
    Calls Tryd.prog 10 #[.slice A xs.length c] w fun e w' => e = .returned (.string (str (setTxt xs))) ∧ Below w.heap.size w w' := by
  have H := Lib.hid h
  have H64 := Lib.hid h64
  clear h h64
  go_enter Tryd.func10, Tryd.ntmps10
  go_wp2_with fail
  go_loopg [3, 4] xs.length (fun n v3 v4 wr => ∃ k : Nat, k + n = xs.length ∧ v4 = .int .i64 k ∧ v3 = .string (str (accTxt (xs.take k))) ∧ Hid (Below w.heap.size w wr))
  case atStart => exact ⟨0, by omega, rfl, rfl, Below.refl _ _⟩
  case round =>
    obtain ⟨k, hk, rfl, rfl, HB⟩ := hrel
    by_cases hlt : k < xs.length
    · obtain ⟨a, x, rfl, HX, HD, h0, h1⟩ := (H.out.below HB.out).at_ k hlt
      have i0 : (0 : Int) ≤ (k : Int) := by omega
      have i1 : (k : Int) < (xs.length : Int) := by omega
      have hx := H64.out x (List.mem_of_getElem? HX.out)
      have hal := acc_len xs H64.out k (by omega)
      have hs1 := str_size (accTxt (xs.take k))
      have HT := Lib.hid (take_snoc HX.out)
      have HTK : Hid ((xs.take k).length = k) := by show _ = _; rw [List.length_take]; omega
      have hi0 := Lib.itoa_length_le x.lo hx.1.1 hx.1.2
      have hi1 := Lib.itoa_length_le x.hi hx.2.1 hx.2.2
      have hz0 := str_size (Lib.itoa x.lo)
      have hz1 := str_size (Lib.itoa x.hi)
      obtain ⟨acc, hacc⟩ : ∃ acc, acc = accTxt (xs.take k) := ⟨_, rfl⟩
      rw [← hacc] at hs1 hal
      have HACC := Lib.hid hacc
      clear hacc
      rw [← HACC.out]
      by_cases hk0 : k = 0
      · have g0 : decide ((0 : Int) < (k : Int)) = false := by simp; omega
        have g1 : (k : Int) ≤ 0 := by omega
        have g2 : decide (0 < k) = false := by simp; omega
        have EP : Hid (accTxt (xs.take (k + 1)) = acc ++ spanTxt x) := by
          show _ = _
          rw [HT.out, acc_snoc, HTK.out, if_pos hk0, HACC.out, hk0]
          rfl
        clear hk0
        go_wp2_with fail
        obtain ⟨pre, hpre⟩ : ∃ p, p = acc := ⟨_, rfl⟩
        have hpl : pre.length ≤ 44 * k + 1 := by rw [hpre]; omega
        rw [← hpre] at EP hs1 ⊢
        clear hpre g0 g1 g2
        refine (sDec_c x.lo wr hx.1).mono ?_
        rintro e w1 ⟨rfl, b1⟩
        have B1 := Lib.hid (below_then HB.out b1)
        have c0 := (b1.cell (World.block_lt_of_cell? wr _ h0)).trans h0
        have c1 := (b1.cell (World.block_lt_of_cell? wr _ h1)).trans h1
        clear b1 h0 h1
        by_cases hne : x.hi = x.lo
        · have d0 : decide (¬ x.hi = x.lo) = false := by simp [hne]
          have d1 : (x.hi != x.lo) = false := by simp [hne]
          have N0 : ∀ z : BW w1, z.w1.cell? (a.add (k * 2)) = some (.int .i64 x.lo) := fun z => z.cell c0
          have N1 : ∀ z : BW w1, z.w1.cell? ⟨(a.add (k * 2)).block, (a.add (k * 2)).off + 1, none⟩ = some (.int .i64 x.hi) := fun z => z.cell c1
          have HNE := Lib.hid hne
          clear c0 c1 hne
          go_wp2_with fail
          refine wp_region_bw (by kernel_rfl) (by kernel_rfl) ?_
          repeat (go_big_quiet_step ((fail)))
          refine wpQuiet_nil ?_
          rintro w2 ⟨x1, y1⟩
          have b2 : Below w1.heap.size w1 w2 := y1 ▸ x1.up
          clear y1 x1 N0 N1
          go_wp2_with fail
          go_roundg (gk - 1)
          case measure => omega
          case rel =>
            refine ⟨k + 1, by omega, by go_num, ?_, below_then B1.out b2⟩
            rw [EP.out, str_append]
            unfold spanTxt
            rw [if_pos HNE.out, List.append_nil]
        · have d0 : decide (¬ x.hi = x.lo) = true := by simp [hne]
          have d1 : (x.hi != x.lo) = true := by simp [hne]
          have N0 : ∀ z : BW w1, z.w1.cell? (a.add (k * 2)) = some (.int .i64 x.lo) := fun z => z.cell c0
          have N1 : ∀ z : BW w1, z.w1.cell? ⟨(a.add (k * 2)).block, (a.add (k * 2)).off + 1, none⟩ = some (.int .i64 x.hi) := fun z => z.cell c1
          have C1 := Lib.hid c1
          have HNE := Lib.hid hne
          clear c0 c1
          go_wp2_with fail
          refine wp_region_bw (by kernel_rfl) (by kernel_rfl) ?_
          repeat (go_big_quiet_step ((fail)))
          refine wpQuiet_nil ?_
          rintro w2 ⟨x1, y1⟩
          have b2 : Below w1.heap.size w1 w2 := y1 ▸ x1.up
          clear y1 x1 N0 N1
          have c1 := (b2.cell (World.block_lt_of_cell? w1 _ C1.out)).trans C1.out
          have B2 := Lib.hid (below_then B1.out b2)
          clear b2
          go_upto_region 9 with fail
          rw [str_append pre (Lib.itoa x.lo)]
          obtain ⟨m, hm⟩ : ∃ m, m = pre ++ Lib.itoa x.lo := ⟨_, rfl⟩
          have hml : m.length ≤ 44 * k + 30 := by rw [hm, List.length_append]; omega
          have HM := Lib.hid hm
          rw [← hm]
          have hs2 := str_size m
          clear hm
          go_wp2_with fail
          rw [str_app m 45]
          obtain ⟨m2, hm2⟩ : ∃ m2, m2 = m ++ [45] := ⟨_, rfl⟩
          have hml2 : m2.length ≤ 44 * k + 31 := by rw [hm2, List.length_append]; simp; omega
          have HM2 := Lib.hid hm2
          rw [← hm2]
          have hs3 := str_size m2
          clear hm2 c1 hne
          refine (sDec_c x.hi w2 hx.2).mono ?_
          rintro e w3 ⟨rfl, b3⟩
          go_wp2_with fail
          go_roundg (gk - 1)
          case measure => omega
          case rel =>
            refine ⟨k + 1, by omega, by go_num, ?_, below_then B2.out b3⟩
            rw [EP.out, str_append, HM2.out, HM.out]
            unfold spanTxt
            rw [if_neg HNE.out]
            simp
      · have g0 : decide ((0 : Int) < (k : Int)) = true := by simp; omega
        have g1 : (0 : Int) < (k : Int) := by omega
        have g2 : decide (0 < k) = true := by simp; omega
        have g3 : 0 < k := by omega
        have EP : Hid (accTxt (xs.take (k + 1)) = (acc ++ [44]) ++ spanTxt x) := by
          show _ = _
          rw [HT.out, acc_snoc, HTK.out, if_neg hk0, HACC.out]
        clear hk0
        go_wp2_with fail
        rw [str_app acc 44]
        obtain ⟨pre, hpre⟩ : ∃ p, p = acc ++ [44] := ⟨_, rfl⟩
        have hpl : pre.length ≤ 44 * k + 1 := by rw [hpre, List.length_append]; simp; omega
        rw [← hpre] at EP ⊢
        have hs1 := str_size pre
        clear hpre g0 g1 g2 g3
        refine (sDec_c x.lo wr hx.1).mono ?_
        rintro e w1 ⟨rfl, b1⟩
        have B1 := Lib.hid (below_then HB.out b1)
        have c0 := (b1.cell (World.block_lt_of_cell? wr _ h0)).trans h0
        have c1 := (b1.cell (World.block_lt_of_cell? wr _ h1)).trans h1
        clear b1 h0 h1
        by_cases hne : x.hi = x.lo
        · have d0 : decide (¬ x.hi = x.lo) = false := by simp [hne]
          have d1 : (x.hi != x.lo) = false := by simp [hne]
          have N0 : ∀ z : BW w1, z.w1.cell? (a.add (k * 2)) = some (.int .i64 x.lo) := fun z => z.cell c0
          have N1 : ∀ z : BW w1, z.w1.cell? ⟨(a.add (k * 2)).block, (a.add (k * 2)).off + 1, none⟩ = some (.int .i64 x.hi) := fun z => z.cell c1
          have HNE := Lib.hid hne
          clear c0 c1 hne
          go_wp2_with fail
          refine wp_region_bw (by kernel_rfl) (by kernel_rfl) ?_
          repeat (go_big_quiet_step ((fail)))
          refine wpQuiet_nil ?_
          rintro w2 ⟨x1, y1⟩
          have b2 : Below w1.heap.size w1 w2 := y1 ▸ x1.up
          clear y1 x1 N0 N1
          go_wp2_with fail
          go_roundg (gk - 1)
          case measure => omega
          case rel =>
            refine ⟨k + 1, by omega, by go_num, ?_, below_then B1.out b2⟩
            rw [EP.out, str_append]
            unfold spanTxt
            rw [if_pos HNE.out, List.append_nil]
        · have d0 : decide (¬ x.hi = x.lo) = true := by simp [hne]
          have d1 : (x.hi != x.lo) = true := by simp [hne]
          have N0 : ∀ z : BW w1, z.w1.cell? (a.add (k * 2)) = some (.int .i64 x.lo) := fun z => z.cell c0
          have N1 : ∀ z : BW w1, z.w1.cell? ⟨(a.add (k * 2)).block, (a.add (k * 2)).off + 1, none⟩ = some (.int .i64 x.hi) := fun z => z.cell c1
          have C1 := Lib.hid c1
          have HNE := Lib.hid hne
          clear c0 c1
          go_wp2_with fail
          refine wp_region_bw (by kernel_rfl) (by kernel_rfl) ?_
          repeat (go_big_quiet_step ((fail)))
          refine wpQuiet_nil ?_
          rintro w2 ⟨x1, y1⟩
          have b2 : Below w1.heap.size w1 w2 := y1 ▸ x1.up
          clear y1 x1 N0 N1
          have c1 := (b2.cell (World.block_lt_of_cell? w1 _ C1.out)).trans C1.out
          have B2 := Lib.hid (below_then B1.out b2)
          clear b2
          go_upto_region 9 with fail
          rw [str_append pre (Lib.itoa x.lo)]
          obtain ⟨m, hm⟩ : ∃ m, m = pre ++ Lib.itoa x.lo := ⟨_, rfl⟩
          have hml : m.length ≤ 44 * k + 30 := by rw [hm, List.length_append]; omega
          have HM := Lib.hid hm
          rw [← hm]
          have hs2 := str_size m
          clear hm
          go_wp2_with fail
          rw [str_app m 45]
          obtain ⟨m2, hm2⟩ : ∃ m2, m2 = m ++ [45] := ⟨_, rfl⟩
          have hml2 : m2.length ≤ 44 * k + 31 := by rw [hm2, List.length_append]; simp; omega
          have HM2 := Lib.hid hm2
          rw [← hm2]
          have hs3 := str_size m2
          clear hm2 c1 hne
          refine (sDec_c x.hi w2 hx.2).mono ?_
          rintro e w3 ⟨rfl, b3⟩
          go_wp2_with fail
          go_roundg (gk - 1)
          case measure => omega
          case rel =>
            refine ⟨k + 1, by omega, by go_num, ?_, below_then B2.out b3⟩
            rw [EP.out, str_append, HM2.out, HM.out]
            unfold spanTxt
            rw [if_neg HNE.out]
            simp
    · have hkl : k = xs.length := by omega
      subst hkl
      rw [List.take_length]
      by_cases hx0 : xs.length = 0
      · have e0 : accTxt xs = [] := by rw [List.length_eq_zero_iff.1 hx0]; rfl
        have E : Hid (setTxt xs = [110, 111]) := by show _ = _; rw [setTxt, if_pos hx0]
        have g0 := str_empty []
        rw [e0]
        clear hx0 e0
        go_wp2_with fail
        go_ret
        exact ⟨by rw [E.out]; rfl, HB.out⟩
      · have hp := acc_pos H64.out hx0
        have g0 := str_empty (accTxt xs)
        have g1 : (accTxt xs).isEmpty = false := by
          cases hq : accTxt xs with
          | nil => rw [hq] at hp; simp at hp
          | cons b l => rfl
        rw [g1] at g0
        have E : Hid (setTxt xs = accTxt xs) := by show _ = _; rw [setTxt, if_neg hx0]
        clear hx0 hp g1
        go_wp2_with fail
        go_ret
        exact ⟨by rw [E.out]; rfl, HB.out⟩

end Go.Proofs.YtlchipjckgaclaaDoor

/- What a text is like, as a tree: the plain functions, and what holds of them. No program in sight. -/
namespace Go.Proofs.YtlchipjckgaclaaDoor
set_option linter.unusedSimpArgs false
set_option linter.unusedVariables false
set_option maxRecDepth 100000

inductive Rex where
  | mk : Int → List Sp → List Rex → Rex
def Rex.kind : Rex → Int
  | .mk k _ _ => k
def Rex.set : Rex → List Sp
  | .mk _ s _ => s
def Rex.kids : Rex → List Rex
  | .mk _ _ ks => ks
instance : Inhabited Rex := ⟨.mk 0 [] []⟩
theorem Rex.eta (r : Rex) : r = .mk r.kind r.set r.kids := by cases r; rfl

theorem Rex.ind {p : Rex → Prop} (h : ∀ k s ks, (∀ r, r ∈ ks → p r) → p (.mk k s ks)) (r : Rex) : p r :=
  Rex.rec (motive_1 := p) (motive_2 := fun ks => ∀ r, r ∈ ks → p r) (fun k s ks ih => h k s ks ih) (fun r hr => by cases hr)
    (fun x xs h1 h2 r hr => by
      rcases List.mem_cons.1 hr with rfl | hr
      · exact h1
      · exact h2 r hr) r

/-- how many kids a kind has -/
def kidsOf (k : Int) : Int := if k = 1 ∨ k = 2 then 0 else if k = 5 ∨ k = 7 then 1 else if k = 3 ∨ k = 4 ∨ k = 6 then 2 else -1

/-- the node itself is right -/
def nodeOk (r : Rex) : Bool := decide (kidsOf r.kind = r.kids.length) && (decide (r.kind = 1) || r.set.isEmpty) && setOk r.set
def formed : Nat → Rex → Bool
  | 0, _ => false
  | d + 1, r => nodeOk r && r.kids.all (formed d)

mutual
def Rex.many : Rex → Nat
  | .mk _ _ ks => 1 + manyL ks
def manyL : List Rex → Nat
  | [] => 0
  | r :: rs => r.many + manyL rs
end
def rexOk (r : Rex) : Bool := formed 8 r && decide (r.many ≤ 24)

mutual
def rexEq : Rex → Rex → Bool
  | .mk k s ks, .mk k' s' ks' => decide (k = k') && decide (s = s') && rexEqL ks ks'
def rexEqL : List Rex → List Rex → Bool
  | [], [] => true
  | r :: rs, r' :: rs' => rexEq r r' && rexEqL rs rs'
  | _, _ => false
end

mutual
def null : Rex → Bool
  | .mk k _ ks =>
    if k = 2 ∨ k = 5 then true
    else if k = 3 ∨ k = 6 then nullAt ks 0 && nullAt ks 1
    else if k = 4 then nullAt ks 0 || nullAt ks 1
    else if k = 7 then !nullAt ks 0
    else false
def nullAt : List Rex → Nat → Bool
  | [], _ => false
  | r :: _, 0 => null r
  | _ :: rs, n + 1 => nullAt rs n
end

mutual
def setsOf : Rex → List (List Sp)
  | .mk k s ks => (if k = 1 then [s] else []) ++ setsOfL ks
def setsOfL : List Rex → List (List Sp)
  | [] => []
  | r :: rs => setsOf r ++ setsOfL rs
end

theorem rexEq_iff (a : Rex) : ∀ b, rexEq a b = true ↔ a = b := by
  refine Rex.rec (motive_1 := fun a => ∀ b, rexEq a b = true ↔ a = b) (motive_2 := fun l => ∀ l', rexEqL l l' = true ↔ l = l') ?_ ?_ ?_ a
  · intro k s ks ih b
    obtain ⟨k', s', ks'⟩ := b
    simp only [rexEq, Bool.and_eq_true, decide_eq_true_eq, ih, Rex.mk.injEq, and_assoc]
  · intro l'
    cases l' <;> simp [rexEqL]
  · intro x xs h1 h2 l'
    cases l' with
    | nil => simp [rexEqL]
    | cons y ys => simp only [rexEqL, Bool.and_eq_true, h1, h2, List.cons.injEq]

theorem formed_mono {d : Nat} : ∀ {r : Rex}, formed d r = true → formed (d + 1) r = true := by
  induction d with
  | zero => intro r h; simp [formed] at h
  | succ d ih =>
    intro r h
    rw [formed, Bool.and_eq_true, List.all_eq_true] at h ⊢
    exact ⟨h.1, fun k hk => ih (h.2 k hk)⟩
theorem formed_le {d d' : Nat} (hd : d ≤ d') {r : Rex} (h : formed d r = true) : formed d' r = true := by
  obtain ⟨j, rfl⟩ := Nat.exists_eq_add_of_le hd
  induction j with
  | zero => exact h
  | succ j ih => exact formed_mono (ih (by omega))

end Go.Proofs.YtlchipjckgaclaaDoor

/- Trees in memory. -/
namespace Go.Proofs.YtlchipjckgaclaaDoor
set_option linter.unusedSimpArgs false
set_option linter.unusedVariables false
set_option maxRecDepth 100000
open Go.RowKit

/-- the three cells of an element -/
structure KCell (w : World) (lo : Nat) (K : Option Addr) (i : Nat) (u0 u1 u2 : Value) : Prop where
  ex : ∃ a, K = some a ∧ lo ≤ a.block ∧ w.cell? (a.add (i * 3)) = some u0 ∧ w.cell? ⟨(a.add (i * 3)).block, (a.add (i * 3)).off + 1, none⟩ = some u1 ∧ w.cell? ⟨(a.add (i * 3)).block, (a.add (i * 3)).off + 2, none⟩ = some u2
theorem add_block' (a : Addr) (n : Nat) : (a.add n).block = a.block := by unfold Addr.add; split <;> rfl
theorem KCell.keep {w w' : World} {lo : Nat} {K : Option Addr} {i : Nat} {u0 u1 u2 : Value} (h : KCell w lo K i u0 u1 u2) (hk : ∀ k, lo ≤ k → k < w.heap.size → w'.heap[k]? = w.heap[k]?) : KCell w' lo K i u0 u1 u2 := by
  obtain ⟨a, e, hl, h0, h1, h2⟩ := h.ex
  have hb := World.block_lt_of_cell? w _ h0
  rw [add_block'] at hb
  have hh := hk a.block hl hb
  refine ⟨a, e, hl, ?_, ?_, ?_⟩
  · rw [World.cell?_of_block (w := w) (by rw [add_block']; exact hh)]; exact h0
  · rw [World.cell?_of_block (w := w) (by show w'.heap[(a.add (i * 3)).block]? = _; rw [add_block']; exact hh)]; exact h1
  · rw [World.cell?_of_block (w := w) (by show w'.heap[(a.add (i * 3)).block]? = _; rw [add_block']; exact hh)]; exact h2
theorem KCell.lower {w : World} {lo lo' : Nat} {K : Option Addr} {i : Nat} {u0 u1 u2 : Value} (h : KCell w lo K i u0 u1 u2) (hl : lo' ≤ lo) : KCell w lo' K i u0 u1 u2 := by
  obtain ⟨a, e, h1, r⟩ := h.ex
  exact ⟨a, e, Nat.le_trans hl h1, r⟩

theorem Sps.keep {w w' : World} {lo : Nat} {A : Option Addr} {c : Nat} {xs : List Sp} (h : Sps w lo A c xs) (hk : ∀ k, lo ≤ k → k < w.heap.size → w'.heap[k]? = w.heap[k]?) : Sps w' lo A c xs := ⟨h.row.keep hk, h.cap, h.len⟩
theorem Sps.lower {w : World} {lo lo' : Nat} {A : Option Addr} {c : Nat} {xs : List Sp} (h : Sps w lo A c xs) (hl : lo' ≤ lo) : Sps w lo' A c xs := ⟨h.row.lower hl, h.cap, h.len⟩

inductive RexV (w : World) (lo : Nat) : Rex → Value → Value → Value → Prop
  | mk (k : Int) (s : List Sp) (ks : List Rex) (A K : Option Addr) (c ck : Nat) (V0 V1 V2 : Nat → Value) (hs : Sps w lo A c s) (hn : ks.length ≤ ck) (hl : ks.length ≤ maxN)
      (hc : ∀ i, i < ks.length → KCell w lo K i (V0 i) (V1 i) (V2 i)) (hr : ∀ i r, ks[i]? = some r → RexV w lo r (V0 i) (V1 i) (V2 i)) : RexV w lo (.mk k s ks) (.int .i64 k) (.slice A s.length c) (.slice K ks.length ck)

theorem RexV.keep {w w' : World} {lo : Nat} {r : Rex} {v0 v1 v2 : Value} (h : RexV w lo r v0 v1 v2) (hk : ∀ k, lo ≤ k → k < w.heap.size → w'.heap[k]? = w.heap[k]?) : RexV w' lo r v0 v1 v2 := by
  induction h with
  | mk k s ks A K c ck V0 V1 V2 hs hn hl hc hr ih => exact .mk k s ks A K c ck V0 V1 V2 (hs.keep hk) hn hl (fun i hi => (hc i hi).keep hk) ih
theorem RexV.under {w w' : World} {lo : Nat} {r : Rex} {v0 v1 v2 : Value} (h : RexV w lo r v0 v1 v2) (hb : Below w.heap.size w w') : RexV w' lo r v0 v1 v2 := h.keep fun k _ hk => hb.block k hk
theorem RexV.lower {w : World} {lo lo' : Nat} {r : Rex} {v0 v1 v2 : Value} (h : RexV w lo r v0 v1 v2) (hl : lo' ≤ lo) : RexV w lo' r v0 v1 v2 := by
  induction h with
  | mk k s ks A K c ck V0 V1 V2 hs hn hl' hc hr ih => exact .mk k s ks A K c ck V0 V1 V2 (hs.lower hl) hn hl' (fun i hi => (hc i hi).lower hl) ih

/-- a row of trees -/
structure Kids (w : World) (lo : Nat) (K : Option Addr) (ck : Nat) (ks : List Rex) : Prop where
  ex : ∃ V0 V1 V2 : Nat → Value, (∀ i, i < ks.length → KCell w lo K i (V0 i) (V1 i) (V2 i)) ∧ ∀ i r, ks[i]? = some r → RexV w lo r (V0 i) (V1 i) (V2 i)
  cap : ks.length ≤ ck
  len : ks.length ≤ maxN
theorem Kids.keep {w w' : World} {lo : Nat} {K : Option Addr} {ck : Nat} {ks : List Rex} (h : Kids w lo K ck ks) (hk : ∀ k, lo ≤ k → k < w.heap.size → w'.heap[k]? = w.heap[k]?) : Kids w' lo K ck ks := by
  obtain ⟨⟨V0, V1, V2, hc, hr⟩, h1, h2⟩ := h
  exact ⟨⟨V0, V1, V2, fun i hi => (hc i hi).keep hk, fun i r e => (hr i r e).keep hk⟩, h1, h2⟩
theorem Kids.below {w w' : World} {lo : Nat} {K : Option Addr} {ck : Nat} {ks : List Rex} (h : Kids w lo K ck ks) (hb : Below w.heap.size w w') : Kids w' lo K ck ks := h.keep fun k _ hk => hb.block k hk
theorem Kids.lower {w : World} {lo lo' : Nat} {K : Option Addr} {ck : Nat} {ks : List Rex} (h : Kids w lo K ck ks) (hl : lo' ≤ lo) : Kids w lo' K ck ks := by
  obtain ⟨⟨V0, V1, V2, hc, hr⟩, h1, h2⟩ := h
  exact ⟨⟨V0, V1, V2, fun i hi => (hc i hi).lower hl, fun i r e => (hr i r e).lower hl⟩, h1, h2⟩
/-- a tree's parts -/
theorem RexV.parts {w : World} {lo : Nat} {r : Rex} {v0 v1 v2 : Value} (h : RexV w lo r v0 v1 v2) :
    ∃ A c K ck, v0 = .int .i64 r.kind ∧ v1 = .slice A r.set.length c ∧ v2 = .slice K r.kids.length ck ∧ Sps w lo A c r.set ∧ Kids w lo K ck r.kids := by
  cases h with
  | mk k s ks A K c ck V0 V1 V2 hs hn hl hc hr => exact ⟨A, c, K, ck, rfl, rfl, rfl, hs, ⟨⟨V0, V1, V2, hc, hr⟩, hn, hl⟩⟩
theorem RexV.of {w : World} {lo : Nat} {k : Int} {s : List Sp} {ks : List Rex} {A K : Option Addr} {c ck : Nat} (hs : Sps w lo A c s) (hk : Kids w lo K ck ks) : RexV w lo (.mk k s ks) (.int .i64 k) (.slice A s.length c) (.slice K ks.length ck) := by
  obtain ⟨⟨V0, V1, V2, hc, hr⟩, h1, h2⟩ := hk
  exact .mk k s ks A K c ck V0 V1 V2 hs h1 h2 hc hr
/-- an element of a row of trees -/
theorem Kids.at_ {w : World} {lo : Nat} {K : Option Addr} {ck : Nat} {ks : List Rex} (h : Kids w lo K ck ks) (i : Nat) (hi : i < ks.length) :
    ∃ a r v1 v2, K = some a ∧ Hid (ks[i]? = some r) ∧ Hid (ks.drop i = r :: ks.drop (i + 1)) ∧ Hid (RexV w lo r (.int .i64 r.kind) v1 v2) ∧
      w.cell? (a.add (i * 3)) = some (.int .i64 r.kind) ∧ w.cell? ⟨(a.add (i * 3)).block, (a.add (i * 3)).off + 1, none⟩ = some v1 ∧ w.cell? ⟨(a.add (i * 3)).block, (a.add (i * 3)).off + 2, none⟩ = some v2 := by
  obtain ⟨⟨V0, V1, V2, hc, hr⟩, h1, h2⟩ := h
  obtain ⟨a, e, _, c0, c1, c2⟩ := (hc i hi).ex
  have hg : ks[i]? = some ks[i] := by simp [hi]
  have hv := hr i _ hg
  have e0 : V0 i = .int .i64 ks[i].kind := by
    obtain ⟨_, _, _, _, e, _⟩ := hv.parts
    exact e
  rw [e0] at hv c0
  exact ⟨a, ks[i], V1 i, V2 i, e, hg, List.drop_eq_getElem_cons hi, hv, c0, c1, c2⟩

end Go.Proofs.YtlchipjckgaclaaDoor

/- SetOk of the program. -/
namespace Go.Proofs.YtlchipjckgaclaaDoor
set_option linter.unusedSimpArgs false
set_option linter.unusedVariables false
set_option maxRecDepth 100000
open Go.RowKit

theorem setOkGo_step {p : Option Int} {x : Sp} {xs ys : List Sp} {r : Bool} (hd : ys = x :: xs) (hr : setOkGo p ys = r) : (spBad p x = true → r = false) ∧ (spBad p x = false → setOkGo (some x.hi) xs = r) := by
  subst hd
  rw [setOkGo] at hr
  refine ⟨fun h => ?_, fun h => ?_⟩
  · rw [← hr, h]; rfl
  · rw [← hr, h]; simp
theorem spBad_none {x : Sp} (h : x.lo < 0 ∨ x.hi < x.lo ∨ 255 < x.hi) (p : Option Int) : spBad p x = true := by
  unfold spBad
  rcases h with h | h | h <;> simp [h]
theorem spBad_some {x : Sp} {q : Int} (h : x.lo ≤ q + 1) : spBad (some q) x = true := by simp [spBad, h]
theorem spGood {p : Option Int} {x : Sp} (h1 : 0 ≤ x.lo) (h2 : x.lo ≤ x.hi) (h3 : x.hi ≤ 255) (h4 : ∀ q, p = some q → q + 1 < x.lo) : spBad p x = false := (spBad_false p x).2 ⟨h1, h2, h3, h4⟩

/-- the span ahead of k, if there is one -/
def PrevOk (xs : List Sp) (k : Nat) (p : Option Int) : Prop := (k = 0 ∧ p = none) ∨ ∃ j y, k = j + 1 ∧ xs[j]? = some y ∧ p = some y.hi ∧ 0 ≤ y.hi ∧ y.hi ≤ 255

set_option maxHeartbeats 1000000 in
theorem iSetOk_c (A : Option Addr) (c : Nat) (xs : List Sp) (w : World) {lo : Nat} (h : Sps w lo A c xs) :
    Calls Tryd.prog 35 #[.slice A xs.length c] w fun e w' => e = .returned (.bool (setOk xs)) ∧ Below w.heap.size w w' := by
  have hlen := h.len
  unfold maxN at hlen
  go_enter Tryd.func35, Tryd.ntmps35
  go_wp2
  go_loopg [7] (xs.length) (fun n i wr => ∃ (k : Nat) (p : Option Int), k + n = xs.length ∧ i = .int .i64 k ∧ Hid (setOkGo p (xs.drop k) = setOk xs) ∧ Hid (PrevOk xs k p) ∧ Below w.heap.size w wr)
  case atStart => exact ⟨0, none, by omega, rfl, by rw [List.drop_zero]; rfl, .inl ⟨rfl, rfl⟩, Below.refl _ _⟩
  case round =>
    obtain ⟨k, p, hk, rfl, HS, HP, hb⟩ := hrel
    by_cases hlt : k < xs.length
    · obtain ⟨a, x, rfl, HX, HD, h0, h1⟩ := (h.below hb).at_ k hlt
      have ST : Hid _ := setOkGo_step HD.out HS.out
      have HB : Hid (Below w.heap.size w wr) := hb
      clear hb HD HS
      by_cases c1 : x.lo < 0
      · have d1 : decide (x.lo < 0) = true := decide_eq_true c1
        clear c1
        go_wp2
        go_quiet (fail)
        go_wp2
        go_ret
        exact ⟨ret_bool (by rw [ST.out.1 (spBad_none (.inl (of_decide_eq_true d1)) _)]), below_drewN (below_alloc HB.out _) _⟩
      have d1 : decide (x.lo < 0) = false := decide_eq_false c1
      by_cases c2 : x.hi < x.lo
      · have d2 : decide (x.hi < x.lo) = true := decide_eq_true c2
        clear c1 c2
        go_wp2
        go_quiet (fail)
        go_wp2
        go_ret
        exact ⟨ret_bool (by rw [ST.out.1 (spBad_none (.inr (.inl (of_decide_eq_true d2))) _)]), below_drewN (below_alloc HB.out _) _⟩
      have d2 : decide (x.hi < x.lo) = false := decide_eq_false c2
      by_cases c3 : 255 < x.hi
      · have d3 : decide (255 < x.hi) = true := decide_eq_true c3
        clear c1 c2 c3
        go_wp2
        go_quiet (fail)
        go_wp2
        go_ret
        exact ⟨ret_bool (by rw [ST.out.1 (spBad_none (.inr (.inr (of_decide_eq_true d3))) _)]), below_drewN (below_alloc HB.out _) _⟩
      have d3 : decide (255 < x.hi) = false := decide_eq_false c3
      have X0 : Hid (0 ≤ x.hi ∧ x.hi ≤ 255) := ⟨by omega, by omega⟩
      rcases HP.out with ⟨hk0, rfl⟩ | ⟨j, y, hj, hy, rfl, y0, y1⟩
      · have C : Hid (spBad none x = false) := spGood (by omega) (by omega) (by omega) (fun q hq => by cases hq)
        have d4 : decide (0 < k) = false := decide_eq_false (by omega)
        clear c1 c2 c3 hk0
        go_wp2
        go_quiet (fail)
        go_wp2
        go_roundg (gk - 1)
        case rel => exact ⟨k + 1, some x.hi, by omega, by go_num, ST.out.2 C.out, .inr ⟨k, x, rfl, HX.out, rfl, X0.out.1, X0.out.2⟩, below_drewN (below_alloc HB.out _) _⟩
        case measure => omega
      · obtain ⟨a', y', ea, HY, _, _, h3⟩ := Sps.at_ (h.below HB.out) (k - 1) (by omega)
        cases ea
        have h4 := fun o => cell_alloc h3 o
        obtain rfl : y = y' := by
          have := HY.out
          rw [show k - 1 = j by omega, hy] at this
          exact Option.some.inj this
        have d4 : decide (0 < k) = true := decide_eq_true (by omega)
        have e1 : IntKind.i64.wrap ((k : Int) - 1) = (k : Int) - 1 := IntWalk.i64_in _ (by omega)
        have e2 : (0 : Int) ≤ (k : Int) - 1 := by omega
        have e6 : (1 : Int) ≤ (k : Int) := by omega
        have e3 : (k : Int) - 1 < (xs.length : Int) := by omega
        have e4 : ((k : Int) - 1).toNat = k - 1 := by omega
        have e5 : IntKind.i64.wrap (y.hi + 1) = y.hi + 1 := IntWalk.i64_in _ (by omega)
        by_cases c4 : x.lo ≤ y.hi + 1
        · have d5 : decide (x.lo ≤ y.hi + 1) = true := decide_eq_true c4
          have C : Hid (spBad (some y.hi) x = true) := spBad_some c4
          clear c1 c2 c3 c4 hj
          go_wp2
          go_quiet (fail)
          clear e1 e2 e3 e4 e5 e6
          go_wp2
          go_ret
          exact ⟨ret_bool (by rw [ST.out.1 C.out]), below_drewN (below_alloc HB.out _) _⟩
        · have d5 : decide (x.lo ≤ y.hi + 1) = false := decide_eq_false c4
          have C : Hid (spBad (some y.hi) x = false) := spGood (by omega) (by omega) (by omega) (fun q hq => by cases hq; omega)
          clear c1 c2 c3 c4 hj
          go_wp2
          go_quiet (fail)
          clear e1 e2 e3 e4 e5 e6
          go_wp2
          go_roundg (gk - 1)
          case rel => exact ⟨k + 1, some x.hi, by omega, by go_num, ST.out.2 C.out, .inr ⟨k, x, rfl, HX.out, rfl, X0.out.1, X0.out.2⟩, below_drewN (below_alloc HB.out _) _⟩
          case measure => omega
    · go_wp2
      go_ret
      exact ⟨ret_bool (by rw [← HS.out, List.drop_of_length_le (by omega)]; rfl), hb⟩

end Go.Proofs.YtlchipjckgaclaaDoor

/- spec.SetOk; the two comparisons of sets; sizes and copies of the laws' arguments. -/
namespace Go.Proofs.YtlchipjckgaclaaDoor
set_option linter.unusedSimpArgs false
set_option linter.unusedVariables false
set_option maxRecDepth 100000
open Go.RowKit

set_option maxHeartbeats 2000000 in
theorem sSetOk_c (A : Option Addr) (c : Nat) (xs : List Sp) (w : World) {lo : Nat} (h : Sps w lo A c xs) :
    Calls Tryd.prog 31 #[.slice A xs.length c] w fun e w' => e = .returned (.bool (setOk xs)) ∧ Drawn w w' := by
  have hlen := h.len
  unfold maxN at hlen
  go_enter Tryd.func31, Tryd.ntmps31
  go_wp2
  go_loopg [3] (xs.length) (fun n i wr => ∃ (k : Nat) (p : Option Int), k + n = xs.length ∧ i = .int .i64 k ∧ Hid (setOkGo p (xs.drop k) = setOk xs) ∧ Hid (PrevOk xs k p) ∧ Drawn w wr)
  case atStart => exact ⟨0, none, by omega, rfl, by rw [List.drop_zero]; rfl, .inl ⟨rfl, rfl⟩, 0, rfl⟩
  case round =>
    obtain ⟨k, p, hk, rfl, HS, HP, m, rfl⟩ := hrel
    by_cases hlt : k < xs.length
    · obtain ⟨a, x, rfl, HX, HD, h0, h1⟩ := h.at_ k hlt
      have ST : Hid _ := setOkGo_step HD.out HS.out
      clear HD HS
      by_cases c1 : x.lo < 0
      · have d1 : decide (x.lo < 0) = true := decide_eq_true c1
        clear c1
        go_wp2
        go_quiet (fail)
        go_wp2
        go_ret
        exact ⟨ret_bool (by rw [ST.out.1 (spBad_none (.inl (of_decide_eq_true d1)) _)]), drewN_drewN _ _ _⟩
      have d1 : decide (x.lo < 0) = false := decide_eq_false c1
      by_cases c2 : 255 < x.hi
      · have d2 : decide (255 < x.hi) = true := decide_eq_true c2
        clear c1 c2
        go_wp2
        go_quiet (fail)
        go_wp2
        go_ret
        exact ⟨ret_bool (by rw [ST.out.1 (spBad_none (.inr (.inr (of_decide_eq_true d2))) _)]), drewN_drewN _ _ _⟩
      have d2 : decide (255 < x.hi) = false := decide_eq_false c2
      by_cases c3 : x.hi < x.lo
      · have d3 : decide (x.hi < x.lo) = true := decide_eq_true c3
        clear c1 c2 c3
        go_wp2
        go_quiet (fail)
        go_wp2
        go_ret
        exact ⟨ret_bool (by rw [ST.out.1 (spBad_none (.inr (.inl (of_decide_eq_true d3))) _)]), drewN_drewN _ _ _⟩
      have d3 : decide (x.hi < x.lo) = false := decide_eq_false c3
      have X0 : Hid (0 ≤ x.hi ∧ x.hi ≤ 255) := ⟨by omega, by omega⟩
      rcases HP.out with ⟨hk0, rfl⟩ | ⟨j, y, hj, hy, rfl, y0, y1⟩
      · have C : Hid (spBad none x = false) := spGood (by omega) (by omega) (by omega) (fun q hq => by cases hq)
        have d4 : decide (0 < k) = false := decide_eq_false (by omega)
        clear c1 c2 c3 hk0
        go_wp2
        go_quiet (fail)
        go_wp2
        go_roundg (gk - 1)
        case rel => exact ⟨k + 1, some x.hi, by omega, by go_num, ST.out.2 C.out, .inr ⟨k, x, rfl, HX.out, rfl, X0.out.1, X0.out.2⟩, ⟨_, rfl⟩⟩
        case measure => omega
      · obtain ⟨a', y', ea, HY, _, _, h3⟩ := h.at_ (k - 1) (by omega)
        cases ea
        obtain rfl : y = y' := by
          have := HY.out
          rw [show k - 1 = j by omega, hy] at this
          exact Option.some.inj this
        have d4 : decide (0 < k) = true := decide_eq_true (by omega)
        have e1 : IntKind.i64.wrap ((k : Int) - 1) = (k : Int) - 1 := IntWalk.i64_in _ (by omega)
        have e2 : (0 : Int) ≤ (k : Int) - 1 := by omega
        have e6 : (1 : Int) ≤ (k : Int) := by omega
        have e3 : (k : Int) - 1 < (xs.length : Int) := by omega
        have e4 : ((k : Int) - 1).toNat = k - 1 := by omega
        have e5 : IntKind.i64.wrap (y.hi + 1) = y.hi + 1 := IntWalk.i64_in _ (by omega)
        by_cases c4 : x.lo ≤ y.hi + 1
        · have d5 : decide (x.lo ≤ y.hi + 1) = true := decide_eq_true c4
          have C : Hid (spBad (some y.hi) x = true) := spBad_some c4
          clear c1 c2 c3 c4 hj
          go_wp2
          go_quiet (fail)
          clear e1 e2 e3 e4 e5 e6
          go_wp2
          go_ret
          exact ⟨ret_bool (by rw [ST.out.1 C.out]), drewN_drewN _ _ _⟩
        · have d5 : decide (x.lo ≤ y.hi + 1) = false := decide_eq_false c4
          have C : Hid (spBad (some y.hi) x = false) := spGood (by omega) (by omega) (by omega) (fun q hq => by cases hq; omega)
          clear c1 c2 c3 c4 hj
          go_wp2
          go_quiet (fail)
          clear e1 e2 e3 e4 e5 e6
          go_wp2
          go_roundg (gk - 1)
          case rel => exact ⟨k + 1, some x.hi, by omega, by go_num, ST.out.2 C.out, .inr ⟨k, x, rfl, HX.out, rfl, X0.out.1, X0.out.2⟩, ⟨_, rfl⟩⟩
          case measure => omega
    · go_wp2
      go_ret
      exact ⟨ret_bool (by rw [← HS.out, List.drop_of_length_le (by omega)]; rfl), m, rfl⟩

def szLeft (n : Nat) (left : Int) : Int := if left < n then -1 else left - n
theorem szSpanS_c (A : Option Addr) (c n : Nat) (left : Int) (w : World) (hn : n ≤ maxN) (h0 : 0 ≤ left) (h1 : left ≤ 1048576) :
    Calls Tryd.prog 9 #[.slice A n c, .int .i64 left] w fun e w' => e = .returned (.int .i64 (szLeft n left)) ∧ w = w' := by
  unfold maxN at hn
  go_enter Tryd.func9, Tryd.ntmps9
  by_cases hlt : left < n
  · go_wp2
    go_ret
    exact ⟨ret_int (by rw [szLeft, if_pos (by omega)]), rfl⟩
  · go_wp2
    go_ret
    exact ⟨ret_int (by rw [szLeft, if_neg (by omega)]), rfl⟩

theorem toSpan_c (x : Sp) (w : World) :
    Calls Tryd.prog 42 #[.agg #[.int .i64 x.lo, .int .i64 x.hi]] w fun e w' => e = .returned (.agg #[.int .i64 x.lo, .int .i64 x.hi]) ∧ Below w.heap.size w w' := by
  go_enter Tryd.func42, Tryd.ntmps42
  go_wp2
  refine bodyPost_ret (v := .agg #[.int .i64 x.lo, .int .i64 x.hi]) (by simp [results, Tryd.results42, go_sem]) rfl ⟨rfl, ?_⟩
  exact below_alloc (below_alloc (below_alloc (Below.refl _ _) _) _) _

theorem sp_ne1 {x y : Sp} (h : (x.lo != y.lo) = true) : x ≠ y := by rintro rfl; simp at h
theorem sp_ne2 {x y : Sp} (h : (x.hi != y.hi) = true) : x ≠ y := by rintro rfl; simp at h
theorem sp_eq {x y : Sp} (h : (x.lo != y.lo) = false) (h' : (x.hi != y.hi) = false) : x = y := by
  cases x; cases y; simp at h h'; rw [h, h']

theorem eqSpan_c (x y : Sp) (w : World) :
    Calls Tryd.prog 45 #[.agg #[.int .i64 x.lo, .int .i64 x.hi], .agg #[.int .i64 y.lo, .int .i64 y.hi]] w fun e w' => e = .returned (.bool (decide (x = y))) ∧ Below w.heap.size w w' := by
  have B := below_alloc (below_alloc (Below.refl w.heap.size w) (.cells #[.int .i64 x.lo, .int .i64 x.hi] 60)) (.cells #[.int .i64 y.lo, .int .i64 y.hi] 60)
  have HB : Hid _ := B
  clear B
  go_enter Tryd.func45, Tryd.ntmps45
  go_wp2
  all_goals go_ret
  · exact ⟨ret_bool (decide_eq_false (sp_ne1 (by assumption))).symm, HB.out⟩
  · exact ⟨ret_bool (decide_eq_false (sp_ne2 (by assumption))).symm, HB.out⟩
  · exact ⟨ret_bool (decide_eq_true (sp_eq (by assumption) (by assumption))).symm, HB.out⟩

theorem drop_eq_step {xs ys xs' ys' : List Sp} {x y : Sp} {r : Bool} (hx : xs = x :: xs') (hy : ys = y :: ys') (hr : decide (xs = ys) = r) : (decide (x = y) = false → r = false) ∧ (decide (x = y) = true → decide (xs' = ys') = r) := by
  subst hx hy
  rw [← hr]
  refine ⟨fun h => ?_, fun h => ?_⟩
  · rw [decide_eq_false_iff_not] at h ⊢
    intro hc
    exact h (List.cons.inj hc).1
  · rw [decide_eq_true_eq] at h
    subst h
    simp

set_option maxRecDepth 100000 in
set_option maxHeartbeats 1000000 in
theorem eqSpanS_c (A B : Option Addr) (c d : Nat) (xs ys : List Sp) (w : World) {lo lo' : Nat} (h : Sps w lo A c xs) (h' : Sps w lo' B d ys) :
    Calls Tryd.prog 13 #[.slice A xs.length c, .slice B ys.length d] w fun e w' => e = .returned (.bool (decide (xs = ys))) ∧ Below w.heap.size w w' := by
  have hlen := h.len
  have hlen' := h'.len
  unfold maxN at hlen hlen'
  by_cases he : xs.length = ys.length
  · have b1 : ((xs.length : Int) != (ys.length : Int)) = false := by simp [he]
    have HE : Hid (xs.length = ys.length) := he
    clear he
    go_enter Tryd.func13, Tryd.ntmps13
    go_wp2
    go_loopg [5] (xs.length) (fun n i wr => ∃ k : Nat, k + n = xs.length ∧ i = .int .i64 k ∧ Hid (decide (xs.drop k = ys.drop k) = decide (xs = ys)) ∧ Below w.heap.size w wr)
    case atStart => exact ⟨0, by omega, rfl, by rw [List.drop_zero, List.drop_zero]; rfl, Below.refl _ _⟩
    case round =>
      obtain ⟨k, hk, rfl, HS, hb⟩ := hrel
      by_cases hlt : k < xs.length
      · have hlt' : k < ys.length := by have := HE.out; omega
        obtain ⟨a, x, rfl, _, HD, h0, h1⟩ := (h.below hb).at_ k hlt
        obtain ⟨a', y, rfl, _, HD', h0', h1'⟩ := (h'.below hb).at_ k hlt'
        have ST : Hid _ := drop_eq_step HD.out HD'.out HS.out
        go_wp2
        go_still_tail 8, (by kernel_rfl)
        go_wp2_with (go_at_call 45; refine (eqSpan_c _ _ _).mono ?_; rintro e w' ⟨rfl, hb'⟩)
        · go_ret
          exact ⟨ret_bool (ST.out.1 (by simpa using ‹(!decide (x = y)) = true›)).symm, below_then (below_drew hb) hb'⟩
        · go_roundg (gk - 1)
          case rel => exact ⟨k + 1, by omega, by go_num, ST.out.2 (by simpa using ‹(!decide (x = y)) = false›), below_then (below_drew hb) hb'⟩
          case measure => omega
      · go_wp2
        go_ret
        exact ⟨ret_bool (by rw [← HS.out, List.drop_of_length_le (by omega), List.drop_of_length_le (by have := HE.out; omega)]; rfl), hb⟩
  · have b1 : ((xs.length : Int) != (ys.length : Int)) = true := by simp; omega
    have b2 : (xs.length == ys.length) = false := by simp [he]
    have C : Hid (decide (xs = ys) = false) := decide_eq_false (by rintro rfl; exact he rfl)
    clear he
    go_enter Tryd.func13, Tryd.ntmps13
    go_wp2
    go_ret
    exact ⟨ret_bool C.out.symm, Below.refl _ _⟩

end Go.Proofs.YtlchipjckgaclaaDoor

/- Sizes of trees, and comparison of trees. -/
namespace Go.Proofs.YtlchipjckgaclaaDoor
set_option linter.unusedSimpArgs false
set_option linter.unusedVariables false
set_option maxRecDepth 100000
open Go.RowKit

mutual
def Rex.size : Rex → Nat
  | .mk _ s ks => s.length + (ks.length + sizeL ks)
def sizeL : List Rex → Nat
  | [] => 0
  | r :: rs => r.size + sizeL rs
end
theorem szLeft_neg {n : Nat} {left : Int} (h : left < n) : szLeft n left < 0 := by unfold szLeft; rw [if_pos h]; omega
theorem szLeft_neg1 {n : Nat} {left : Int} (h : left < n) : szLeft n left = -1 := by unfold szLeft; rw [if_pos h]
theorem szLeft_pos {n : Nat} {left : Int} (h : ¬ left < n) : szLeft n left = left - n := by unfold szLeft; rw [if_neg h]
theorem szLeft_add1 {n m : Nat} {left : Int} (h : left < n) : szLeft (n + m) left = -1 := szLeft_neg1 (by omega)
theorem szLeft_add {n m : Nat} {left : Int} (h : ¬ left < n) : szLeft (n + m) left = szLeft m (left - n) := by
  unfold szLeft
  by_cases h2 : left < ((n + m : Nat) : Int)
  · rw [if_pos h2, if_pos (by omega)]
  · rw [if_neg h2, if_neg (by omega)]; omega

def SzOk (r : Rex) : Prop := ∀ (v1 v2 : Value) (left : Int) (w : World) (lo : Nat), RexV w lo r (.int .i64 r.kind) v1 v2 → 0 ≤ left → left ≤ 1048576 →
  Calls Tryd.prog 14 #[.agg #[.int .i64 r.kind, v1, v2], .int .i64 left] w fun e w' => e = .returned (.int .i64 (szLeft r.size left)) ∧ Below w.heap.size w w'

set_option maxHeartbeats 1000000 in
theorem szRexS_of (ks : List Rex) (ih : ∀ r, r ∈ ks → SzOk r) (K : Option Addr) (ck : Nat) (left : Int) (w : World) (lo : Nat) (h : Kids w lo K ck ks) (h0 : 0 ≤ left) (h1 : left ≤ 1048576) :
    Calls Tryd.prog 46 #[.slice K ks.length ck, .int .i64 left] w fun e w' => e = .returned (.int .i64 (szLeft (ks.length + sizeL ks) left)) ∧ Below w.heap.size w w' := by
  have hlen := h.len
  unfold maxN at hlen
  by_cases hb : left < ks.length
  · have E := Lib.hid (szLeft_add1 (m := sizeL ks) hb)
    go_enter Tryd.func46, Tryd.ntmps46
    go_wp2
    go_ret
    exact ⟨ret_int E.out.symm, Below.refl _ _⟩
  · have E := Lib.hid (szLeft_add (m := sizeL ks) hb)
    have hb' : ¬ (left - (ks.length : Int) < 0) := by omega
    go_enter Tryd.func46, Tryd.ntmps46
    go_wp2
    go_loopg [1, 5] (ks.length) (fun n l i wr => ∃ k : Nat, k + n = ks.length ∧ i = .int .i64 k ∧ ∃ x : Int, l = .int .i64 x ∧ 0 ≤ x ∧ x ≤ 1048576 ∧ Hid (szLeft (sizeL (ks.drop k)) x = szLeft (ks.length + sizeL ks) left) ∧ Hid (Below w.heap.size w wr))
    case atStart => exact ⟨0, by omega, rfl, _, rfl, by omega, by omega, by rw [E.out]; rfl, Below.refl _ _⟩
    case round =>
      clear hb hb'
      obtain ⟨k, hk, rfl, x, rfl, hx0, hx1, HS, HB⟩ := hrel
      by_cases hlt : k < ks.length
      · obtain ⟨a, r, v1, v2, rfl, HX, HD, HV, c0, c1, c2⟩ := (h.below HB.out).at_ k hlt
        go_wp2_with fail
        refine (ih r (List.mem_of_getElem? HX.out) v1 v2 x _ _ HV.out hx0 hx1).mono ?_
        rintro e w2 ⟨rfl, b2⟩
        clear c0 c1 c2
        have E2 : Hid (sizeL (ks.drop k) = r.size + sizeL (ks.drop (k + 1))) := by show _ = _; rw [HD.out, sizeL]
        by_cases hx : x < r.size
        · have hs := szLeft_neg hx
          have HX1 := Lib.hid hx
          clear hx
          go_wp2
          go_ret
          exact ⟨ret_int (by rw [← HS.out, E2.out, szLeft_add1 HX1.out]), below_then HB.out b2⟩
        · rw [szLeft_pos hx]
          have hs : ¬ (x - (r.size : Int) < 0) := by omega
          have HX1 := Lib.hid hx
          clear hx
          go_wp2
          go_roundg (gk - 1)
          case rel => exact ⟨k + 1, by omega, by go_num, _, rfl, by omega, by omega, by rw [← HS.out, E2.out, szLeft_add (by have := HX1.out; omega)]; rfl, below_then HB.out b2⟩
          case measure => omega
      · go_wp2
        go_ret
        refine ⟨ret_int ?_, HB.out⟩
        rw [← HS.out, List.drop_of_length_le (by omega), sizeL, szLeft_pos (by simpa using hx0)]
        simp

set_option maxHeartbeats 1000000 in
theorem szRex_c (r : Rex) : SzOk r := by
  refine Rex.ind (p := SzOk) (fun k s ks ih => ?_) r
  intro v1 v2 left w lo h h0 h1
  obtain ⟨A, c, K, ck, _, rfl, rfl, hs, hk⟩ := h.parts
  dsimp only [Rex.kind, Rex.set, Rex.kids] at hs hk ⊢
  clear h
  have hlen := hs.len
  by_cases hx : left < s.length
  · have E := Lib.hid (szLeft_add1 (m := ks.length + sizeL ks) hx)
    have hs1 := szLeft_neg hx
    clear hx
    go_enter Tryd.func14, Tryd.ntmps14
    go_wp2_with fail
    refine (szSpanS_c _ _ _ _ _ hlen h0 h1).mono ?_
    rintro e w2 ⟨rfl, rfl⟩
    go_wp2
    go_ret
    exact ⟨ret_int (by rw [Rex.size, E.out]), below_alloc (Below.refl _ _) _⟩
  · have E := Lib.hid (szLeft_add (m := ks.length + sizeL ks) hx)
    go_enter Tryd.func14, Tryd.ntmps14
    go_wp2_with fail
    refine (szSpanS_c _ _ _ _ _ hlen h0 h1).mono ?_
    rintro e w2 ⟨rfl, rfl⟩
    rw [szLeft_pos (by omega : ¬ left < (s.length : Int))]
    have hs1 : ¬ (left - (s.length : Int) < 0) := by omega
    have hb := below_alloc (Below.refl w.heap.size w) (.cells #[.int .i64 k, .slice A s.length c, .slice K ks.length ck] 31)
    have hk2 := hk.below hb
    have HB := Lib.hid hb
    clear hx hb
    go_wp2_with fail
    refine (szRexS_of ks ih _ _ _ _ _ hk2 (by omega) (by omega)).mono ?_
    rintro e w3 ⟨rfl, b3⟩
    clear hs1
    by_cases hy : left - (s.length : Int) < ((ks.length + sizeL ks : Nat) : Int)
    · have hs2 := szLeft_neg hy
      have E2 := Lib.hid (szLeft_neg1 hy)
      clear hy
      go_wp2
      go_ret
      exact ⟨ret_int (by rw [Rex.size, E.out, E2.out]), below_then HB.out b3⟩
    · have hs2 : ¬ szLeft (ks.length + sizeL ks) (left - (s.length : Int)) < 0 := by rw [szLeft_pos hy]; omega
      clear hy
      go_wp2
      go_ret
      exact ⟨ret_int (by rw [Rex.size, E.out]), below_then HB.out b3⟩

/-! ### comparison -/
theorem rexEqL_len {ks ls : List Rex} (h : ks.length ≠ ls.length) : rexEqL ks ls = false := by
  induction ks generalizing ls with
  | nil => cases ls with
    | nil => simp at h
    | cons y ys => rfl
  | cons x xs ih => cases ls with
    | nil => rfl
    | cons y ys => rw [rexEqL, ih (by simpa using h), Bool.and_false]
def EqOk (r : Rex) : Prop := ∀ (r' : Rex) (v1 v2 u1 u2 : Value) (w : World) (lo lo' : Nat), RexV w lo r (.int .i64 r.kind) v1 v2 → RexV w lo' r' (.int .i64 r'.kind) u1 u2 →
  Calls Tryd.prog 18 #[.agg #[.int .i64 r.kind, v1, v2], .agg #[.int .i64 r'.kind, u1, u2]] w fun e w' => e = .returned (.bool (rexEq r r')) ∧ Below w.heap.size w w'

set_option maxHeartbeats 1000000 in
theorem eqRexS_of (ks ls : List Rex) (ih : ∀ r, r ∈ ks → EqOk r) (K L : Option Addr) (ck cl : Nat) (w : World) (lo lo' : Nat) (h : Kids w lo K ck ks) (h' : Kids w lo' L cl ls) :
    Calls Tryd.prog 50 #[.slice K ks.length ck, .slice L ls.length cl] w fun e w' => e = .returned (.bool (rexEqL ks ls)) ∧ Below w.heap.size w w' := by
  have hlen := h.len
  have hlen' := h'.len
  unfold maxN at hlen hlen'
  by_cases he : ks.length = ls.length
  · have b1 : ((ks.length : Int) != (ls.length : Int)) = false := by simp [he]
    have HE : Hid (ks.length = ls.length) := he
    clear he
    go_enter Tryd.func50, Tryd.ntmps50
    go_wp2
    go_loopg [5] (ks.length) (fun n i wr => ∃ k : Nat, k + n = ks.length ∧ i = .int .i64 k ∧ Hid (rexEqL (ks.drop k) (ls.drop k) = rexEqL ks ls) ∧ Below w.heap.size w wr)
    case atStart => exact ⟨0, by omega, rfl, by rw [List.drop_zero, List.drop_zero]; rfl, Below.refl _ _⟩
    case round =>
      obtain ⟨k, hk, rfl, HS, hb⟩ := hrel
      by_cases hlt : k < ks.length
      · have hlt' : k < ls.length := by have := HE.out; omega
        obtain ⟨a, r, v1, v2, rfl, HX, HD, HV, c0, c1, c2⟩ := (h.below hb).at_ k hlt
        obtain ⟨a', r', u1, u2, rfl, HX', HD', HV', c0', c1', c2'⟩ := (h'.below hb).at_ k hlt'
        have ST : Hid (rexEqL ks ls = (rexEq r r' && rexEqL (ks.drop (k + 1)) (ls.drop (k + 1)))) := by show _ = _; rw [← HS.out, HD.out, HD'.out, rexEqL]
        have HV1 := Lib.hid (HV.out.under (below_drew (Below.refl _ _)))
        have HV2 := Lib.hid (HV'.out.under (below_drew (Below.refl _ _)))
        go_wp2
        go_still_tail 8, (by kernel_rfl)
        by_cases hq : rexEq r r' = true
        · have HQ := Lib.hid hq
          clear hq
          go_wp2_with (go_at_call 18; refine (ih r (List.mem_of_getElem? HX.out) r' v1 v2 u1 u2 _ _ _ HV1.out HV2.out).mono ?_; rintro e w' ⟨rfl, hb'⟩; rw [HQ.out])
          go_roundg (gk - 1)
          case rel => exact ⟨k + 1, by omega, by go_num, by rw [ST.out, HQ.out]; rfl, below_then (below_drew hb) hb'⟩
          case measure => omega
        · have HQ : Hid (rexEq r r' = false) := by show _ = _; simpa using hq
          clear hq
          go_wp2_with (go_at_call 18; refine (ih r (List.mem_of_getElem? HX.out) r' v1 v2 u1 u2 _ _ _ HV1.out HV2.out).mono ?_; rintro e w' ⟨rfl, hb'⟩; rw [HQ.out])
          go_ret
          exact ⟨ret_bool (by rw [ST.out, HQ.out]; rfl), below_then (below_drew hb) hb'⟩
      · go_wp2
        go_ret
        exact ⟨ret_bool (by rw [← HS.out, List.drop_of_length_le (by omega), List.drop_of_length_le (by have := HE.out; omega)]; rfl), hb⟩
  · have b1 : ((ks.length : Int) != (ls.length : Int)) = true := by simp; omega
    have b2 : (ks.length == ls.length) = false := by simp [he]
    have C := Lib.hid (rexEqL_len he)
    clear he
    go_enter Tryd.func50, Tryd.ntmps50
    go_wp2
    go_ret
    exact ⟨ret_bool C.out.symm, Below.refl _ _⟩

theorem cell_at {w w' : World} {g : Nat} {cs : Array Value} {t : TypeId} (h : w.heap[g]? = some (.cells cs t (0, 0))) (i : Nat) : w.cell? ⟨g, i, none⟩ = cs[i]? := cell_of_row w g i cs t (0, 0) h

set_option maxHeartbeats 1000000 in
theorem eqRex_c (r : Rex) : EqOk r := by
  refine Rex.ind (p := EqOk) (fun k s ks ih => ?_) r
  intro r' v1 v2 u1 u2 w lo lo' h h'
  obtain ⟨k', s', ks'⟩ := r'
  obtain ⟨A, c, K, ck, _, rfl, rfl, hs, hk⟩ := h.parts
  obtain ⟨A', c', K', ck', _, rfl, rfl, hs', hk'⟩ := h'.parts
  dsimp only [Rex.kind, Rex.set, Rex.kids] at hs hk hs' hk' ⊢
  clear h h'
  obtain ⟨wa, hwa⟩ : ∃ x, x = (w.alloc (.cells #[.int .i64 k, .slice A s.length c, .slice K ks.length ck] 36)).alloc (.cells #[.int .i64 k', .slice A' s'.length c', .slice K' ks'.length ck'] 36) := ⟨_, rfl⟩
  have hb : Below w.heap.size w wa := by rw [hwa]; exact below_alloc (below_alloc (Below.refl _ _) _) _
  have m0 : wa.heap[w.heap.size]? = some (.cells #[.int .i64 k, .slice A s.length c, .slice K ks.length ck] 36 (0, 0)) := by
    rw [hwa]
    exact ((below_alloc (Below.refl _ _) _).block _ (by simp)).trans (heap_alloc_new w _)
  have m1 : wa.heap[w.heap.size + 1]? = some (.cells #[.int .i64 k', .slice A' s'.length c', .slice K' ks'.length ck'] 36 (0, 0)) := by
    rw [hwa]
    have := heap_alloc_new (w.alloc (.cells #[.int .i64 k, .slice A s.length c, .slice K ks.length ck] 36)) (.cells #[.int .i64 k', .slice A' s'.length c', .slice K' ks'.length ck'] 36)
    simpa using this
  have hsz : wa.heap.size = w.heap.size + 2 := by rw [hwa]; simp
  have HS := Lib.hid (hs.below hb)
  have HS' := Lib.hid (hs'.below hb)
  have HK := Lib.hid (hk.below hb)
  have HK' := Lib.hid (hk'.below hb)
  have HB := Lib.hid hb
  have M0 := Lib.hid m0
  have M1 := Lib.hid m1
  have HZ := Lib.hid hsz
  clear hb m0 m1 hs hs' hk hk' hsz
  have hlen := HS.out.len
  have hlen' := HS'.out.len
  unfold maxN at hlen hlen'
  go_enter Tryd.func18, Tryd.ntmps18
  by_cases e0 : k = k'
  · subst e0
    go_wp2_with fail
    rw [← hwa]
    refine (eqSpanS_c _ _ _ _ _ _ _ HS.out HS'.out).mono ?_
    rintro e w3 ⟨rfl, b3⟩
    have n0 : w3.cell? ⟨w.heap.size, 2, none⟩ = some (.slice K ks.length ck) := by
      rw [cell_at (w' := w3) ((b3.block _ (by have := HZ.out; omega)).trans M0.out)]; rfl
    have n1 : w3.cell? ⟨w.heap.size + 1, 2, none⟩ = some (.slice K' ks'.length ck') := by
      rw [cell_at (w' := w3) ((b3.block _ (by have := HZ.out; omega)).trans M1.out)]; rfl
    have HK2 := Lib.hid (HK.out.below b3)
    have HK2' := Lib.hid (HK'.out.below b3)
    have HB3 := Lib.hid (below_then HB.out b3)
    clear b3
    by_cases e1 : s = s'
    · have E1 := Lib.hid e1
      rw [decide_eq_true e1]
      clear e1 hwa M0 M1 HK HK' HS HS' HB
      go_wp2_with fail
      refine (eqRexS_of ks ks' ih _ _ _ _ _ _ _ HK2.out HK2'.out).mono ?_
      rintro e w4 ⟨rfl, b4⟩
      have HB4 := Lib.hid (below_then HB3.out b4)
      clear b4 n0 n1
      by_cases e2 : rexEqL ks ks' = true
      · have E2 := Lib.hid e2
        rw [e2]
        clear e2
        go_wp2
        go_ret
        exact ⟨ret_bool (by rw [rexEq, decide_eq_true rfl, decide_eq_true E1.out, E2.out]; rfl), HB4.out⟩
      · replace e2 : rexEqL ks ks' = false := by simpa using e2
        have E2 := Lib.hid e2
        rw [e2]
        clear e2
        go_wp2
        go_ret
        exact ⟨ret_bool (by rw [rexEq, E2.out, Bool.and_false]), HB4.out⟩
    · have E1 := Lib.hid e1
      rw [decide_eq_false e1]
      clear e1 hwa
      go_wp2
      go_ret
      exact ⟨ret_bool (by rw [rexEq, decide_eq_false E1.out]; simp), HB3.out⟩
  · have b0 : (k != k') = true := by simp [e0]
    have E0 := Lib.hid e0
    clear e0
    go_wp2
    rw [← hwa]
    go_ret
    exact ⟨ret_bool (by rw [rexEq, decide_eq_false E0.out]; rfl), HB.out⟩

end Go.Proofs.YtlchipjckgaclaaDoor

/- How many kids a kind has, of the reference and of the program. (Printed by wip/gen/kids.py.) -/
namespace Go.Proofs.YtlchipjckgaclaaDoor
set_option linter.unusedSimpArgs false
set_option linter.unusedVariables false
set_option maxRecDepth 100000
open Go.RowKit

theorem kids0 {k : Int} (h : k = 1 ∨ k = 2) : kidsOf k = 0 := by unfold kidsOf; rw [if_pos h]
theorem kids1 {k : Int} (h : k = 5 ∨ k = 7) : kidsOf k = 1 := by unfold kidsOf; rw [if_neg (by omega), if_pos h]
theorem kids2 {k : Int} (h : k = 3 ∨ k = 4 ∨ k = 6) : kidsOf k = 2 := by unfold kidsOf; rw [if_neg (by omega), if_neg (by omega), if_pos h]
theorem kidsN {k : Int} (h : ¬ (k = 1 ∨ k = 2 ∨ k = 3 ∨ k = 4 ∨ k = 5 ∨ k = 6 ∨ k = 7)) : kidsOf k = -1 := by unfold kidsOf; rw [if_neg (by omega), if_neg (by omega), if_neg (by omega)]

theorem sKids_c (k : Int) (w : World) : Calls Tryd.prog 86 #[.int .i64 k] w fun e w' => e = .returned (.int .i64 (kidsOf k)) ∧ w = w' := by
  by_cases e1 : k = 1
  · subst e1
    rw [kids0 (.inl rfl)]
    go_enter Tryd.func86, Tryd.ntmps86
    go_wp2
    go_ret
    exact ⟨rfl, rfl⟩
  have d1 : (k == 1) = false := by simp [e1]
  by_cases e2 : k = 2
  · subst e2
    rw [kids0 (.inr rfl)]
    go_enter Tryd.func86, Tryd.ntmps86
    go_wp2
    go_ret
    exact ⟨rfl, rfl⟩
  have d2 : (k == 2) = false := by simp [e2]
  by_cases e5 : k = 5
  · subst e5
    rw [kids1 (.inl rfl)]
    go_enter Tryd.func86, Tryd.ntmps86
    go_wp2
    go_ret
    exact ⟨rfl, rfl⟩
  have d5 : (k == 5) = false := by simp [e5]
  by_cases e7 : k = 7
  · subst e7
    rw [kids1 (.inr rfl)]
    go_enter Tryd.func86, Tryd.ntmps86
    go_wp2
    go_ret
    exact ⟨rfl, rfl⟩
  have d7 : (k == 7) = false := by simp [e7]
  by_cases e3 : k = 3
  · subst e3
    rw [kids2 (.inl rfl)]
    go_enter Tryd.func86, Tryd.ntmps86
    go_wp2
    go_ret
    exact ⟨rfl, rfl⟩
  have d3 : (k == 3) = false := by simp [e3]
  by_cases e4 : k = 4
  · subst e4
    rw [kids2 (.inr (.inl rfl))]
    go_enter Tryd.func86, Tryd.ntmps86
    go_wp2
    go_ret
    exact ⟨rfl, rfl⟩
  have d4 : (k == 4) = false := by simp [e4]
  by_cases e6 : k = 6
  · subst e6
    rw [kids2 (.inr (.inr rfl))]
    go_enter Tryd.func86, Tryd.ntmps86
    go_wp2
    go_ret
    exact ⟨rfl, rfl⟩
  have d6 : (k == 6) = false := by simp [e6]
  rw [kidsN (by omega)]
  go_enter Tryd.func86, Tryd.ntmps86
  go_wp2
  go_ret
  exact ⟨rfl, rfl⟩

theorem iKids_c (k : Int) (w : World) : Calls Tryd.prog 87 #[.int .i64 k] w fun e w' => e = .returned (.int .i64 (kidsOf k)) ∧ w = w' := by
  by_cases e1 : k = 1
  · subst e1
    rw [kids0 (.inl rfl)]
    go_enter Tryd.func87, Tryd.ntmps87
    go_wp2
    go_ret
    exact ⟨rfl, rfl⟩
  have d1 : (k == 1) = false := by simp [e1]
  by_cases e2 : k = 2
  · subst e2
    rw [kids0 (.inr rfl)]
    go_enter Tryd.func87, Tryd.ntmps87
    go_wp2
    go_ret
    exact ⟨rfl, rfl⟩
  have d2 : (k == 2) = false := by simp [e2]
  by_cases e5 : k = 5
  · subst e5
    rw [kids1 (.inl rfl)]
    go_enter Tryd.func87, Tryd.ntmps87
    go_wp2
    go_ret
    exact ⟨rfl, rfl⟩
  have d5 : (k == 5) = false := by simp [e5]
  by_cases e7 : k = 7
  · subst e7
    rw [kids1 (.inr rfl)]
    go_enter Tryd.func87, Tryd.ntmps87
    go_wp2
    go_ret
    exact ⟨rfl, rfl⟩
  have d7 : (k == 7) = false := by simp [e7]
  by_cases e3 : k = 3
  · subst e3
    rw [kids2 (.inl rfl)]
    go_enter Tryd.func87, Tryd.ntmps87
    go_wp2
    go_ret
    exact ⟨rfl, rfl⟩
  have d3 : (k == 3) = false := by simp [e3]
  by_cases e4 : k = 4
  · subst e4
    rw [kids2 (.inr (.inl rfl))]
    go_enter Tryd.func87, Tryd.ntmps87
    go_wp2
    go_ret
    exact ⟨rfl, rfl⟩
  have d4 : (k == 4) = false := by simp [e4]
  by_cases e6 : k = 6
  · subst e6
    rw [kids2 (.inr (.inr rfl))]
    go_enter Tryd.func87, Tryd.ntmps87
    go_wp2
    go_ret
    exact ⟨rfl, rfl⟩
  have d6 : (k == 6) = false := by simp [e6]
  rw [kidsN (by omega)]
  go_enter Tryd.func87, Tryd.ntmps87
  go_wp2
  go_ret
  exact ⟨rfl, rfl⟩

end Go.Proofs.YtlchipjckgaclaaDoor
