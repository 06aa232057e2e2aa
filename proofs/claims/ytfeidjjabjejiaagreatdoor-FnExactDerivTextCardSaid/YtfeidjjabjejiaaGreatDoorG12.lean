/- Texts joined for the claims: Y8 Y9 W4. -/
import Derived.Test.YtfeidjjabjejiaaGreatDoorG11
import Derived.Test.YtfeidjjabjejiaaGreatDoorG1
import Derived.Test.YtfeidjjabjejiaaGreatDoorG2
import Derived.Laws.StructEq
/- A tree put into a list that lies in the order of the texts, by the reference: the walk. -/
namespace Go.Proofs.YtfeidjjabjejiaaGreatDoor
set_option linter.unusedSimpArgs false
set_option linter.unusedVariables false
set_option maxRecDepth 100000
open Go.RowKit

theorem str_list (a : List UInt8) : (str a).toList = a := by rw [ByteArray.toList_eq]; simp [str]
theorem less_eq : ∀ (x y : List UInt8), Op.bytesLess x y = decide (x < y)
  | [], [] => by simp [Op.bytesLess]
  | a :: x, [] => by simp [Op.bytesLess]
  | [], b :: y => by simp [Op.bytesLess]
  | a :: x, b :: y => by
    rw [Op.bytesLess, less_eq x y]
    simp only [List.cons_lt_cons_iff]
    by_cases h1 : a < b <;> by_cases h2 : a = b <;> by_cases h3 : x < y <;> simp [h1, h2, h3]
theorem own_cap {w : World} {base n m size c g : Nat} {e : TypeId} {cs : List Value} (h : w.ownsRow base e size (.slice (some ⟨g, 0, none⟩) n c) m cs) : m ≤ c := by
  obtain ⟨A, c', e, hc, _⟩ := own_row h
  injection e with e1 e2 e3
  omega
theorem grown_fin {w wF w6 w7 : World} {g : Nat} {v6 : Value} (hB : Below w.heap.size w wF) (h6 : wF.grownBy w6 (some g)) (h7 : w6.grownBy w7 v6.ownBlock) (hat : ∀ b, b ∈ vblk v6 → b = g ∨ w.heap.size ≤ b) : w.grownBy w7 (some g) :=
  ⟨h7.os.trans (h6.os.trans hB.os), h7.tape.trans (h6.tape.trans hB.tape), h7.output.trans (h6.output.trans hB.output), Nat.le_trans hB.size (Nat.le_trans h6.size h7.size), fun i hi hne => by
    have e1 := hB.size
    have e2 := h6.size
    rw [h7.block i (by omega) (fun e => by
      rcases hat i (mem_vblk.2 e.symm) with h | h
      · exact hne (congrArg some h)
      · omega), h6.block i (by omega) hne, hB.block i hi]⟩
def PutPost (base : Nat) (p : Nat → Prop) (l : List Rex) (r : Rex) (row : Option Nat) (w : World) (e : Ending) (w' : World) : Prop :=
  ∃ g n c L, e = .returned (.slice (some ⟨g, 0, none⟩) n c) ∧ n = (put l r).length ∧ OwnR w' base p (.slice (some ⟨g, 0, none⟩) n c) (put l r) L ∧ w.grownBy w' row ∧ (some g = row ∨ w.heap.size ≤ g)
set_option maxHeartbeats 1000000 in
theorem sPut_c (l : List Rex) (r : Rex) (g n c : Nat) (L : List KInfo) (w : World) (base : Nat) (p : Nat → Prop) (u1 u2 : Value) (hO : OwnR w base p (.slice (some ⟨g, 0, none⟩) n c) l L) (hn : n = l.length) (hlt : n < 4194304) (hbase : base ≤ w.heap.size) (hp : ∀ b, p b → b ≠ g ∧ b < w.heap.size)
    (hr : RexP w p r (.int .i64 r.kind) u1 u2) (hT : ∀ x, x = r ∨ x ∈ l → ∃ d, formed d x = true ∧ x.size ≤ 1048576) :
    Calls Tryz.prog 157 #[.slice (some ⟨g, 0, none⟩) n c, .agg #[.int .i64 r.kind, u1, u2]] w (PutPost base p l r (some g) w) := by
  obtain ⟨B, d, KR, dk, _, rfl, rfl, _, _⟩ := hr.parts
  obtain ⟨wa, hwa⟩ : ∃ x, x = w.alloc (.cells #[.int .i64 r.kind, .slice B r.set.length d, .slice KR r.kids.length dk] TRx) := ⟨_, rfl⟩
  have hb : Below w.heap.size w wa := by rw [hwa]; exact below_alloc (Below.refl _ _) _
  have MR : Hid (Blk wa w.heap.size #[.int .i64 r.kind, .slice B r.set.length d, .slice KR r.kids.length dk] TRx) := by rw [hwa]; exact blk_new w _ _
  have HZ : Hid (w.heap.size < wa.heap.size) := by rw [hwa]; show _ < _; simp
  replace hwa := hwa.symm
  have HR := Lib.hid (hr.under hb)
  have HO := Lib.hid (hO.under hb)
  have HP := Lib.hid hp
  have HB := Lib.hid hb
  have HN := Lib.hid hn
  have HT := Lib.hid hT
  have b0 : wa.cell? ⟨w.heap.size, 0, none⟩ = some (.int .i64 r.kind) := by rw [MR.out.cell]; rfl
  have b1 : wa.cell? ⟨w.heap.size, 1, none⟩ = some (.slice B r.set.length d) := by rw [MR.out.cell]; rfl
  have b2 : wa.cell? ⟨w.heap.size, 2, none⟩ = some (.slice KR r.kids.length dk) := by rw [MR.out.cell]; rfl
  obtain ⟨S, hS⟩ : ∃ S, S = rexTxt r := ⟨_, rfl⟩
  have HS := Lib.hid hS
  have HTX : Hid (∀ w' : World, Below wa.heap.size wa w' → Calls Tryz.prog 85 #[.agg #[.int .i64 r.kind, .slice B r.set.length d, .slice KR r.kids.length dk]] w' fun e w'' => e = .returned (.string (str S)) ∧ Below w'.heap.size w' w'') := fun w' hw => by rw [hS]; exact sTxt r p _ _ w' (HR.out.under hw) (HT.out r (.inl rfl))
  have HGL : Hid (g < w.heap.size) := (own_vlt hO.own g (by simp [vblk_some])).2
  have HGB : Hid (base ≤ g) := (own_vlt hO.own g (by simp [vblk_some])).1
  clear hr hO hp hb hn hT hS
  go_enter Tryz.func157, Tryz.ntmps157
  go_wp2_with (with_reducible refine (HTX.out wa (Below.refl _ _)).mono ?_; rintro e w1 ⟨rfl, hb1⟩; replace hb1 := Lib.hid hb1)
  clear hwa b0 b1 b2
  go_loopg [6] n (fun q v wr => ∃ k : Nat, v = .int .i64 (k : Int) ∧ q + k = n ∧ Hid (∀ j x, j < k → l[j]? = some x → rexTxt x < S) ∧ Hid (Below wa.heap.size wa wr))
  case atStart => exact ⟨0, rfl, by omega, fun j x hj => by omega, hb1⟩
  case round =>
    clear hb1
    obtain ⟨k, rfl, hqk, HLT, HW⟩ := hrel
    by_cases hkn : k < n
    · obtain ⟨g', cap', x, A2, c2, K2, k2, ev, ex, eL, hx, x0, x1, x2⟩ := HO.out.at_ k (by have := HN.out; omega)
      injection ev with ev1 ev2 ev3
      injection ev1 with ev1
      injection ev1 with ev1
      subst ev1
      have X0 := Lib.hid x0
      have X1 := Lib.hid x1
      have X2 := Lib.hid x2
      have up : ∀ {q : Addr} {u : Value}, wa.cell? q = some u → wr.cell? q = some u := fun {q u} h => (HW.out.cell (World.block_lt_of_cell? wa q h)).trans h
      replace x0 := up x0
      replace x1 := up x1
      replace x2 := up x2
      have HX := Lib.hid (hx.mono (p' := p) fun b hb => hb.1)
      have EX : Hid (l[k]? = some x) := ex
      obtain ⟨X, hX⟩ : ∃ X, X = rexTxt x := ⟨_, rfl⟩
      have HXX := Lib.hid hX
      have HTXX : Hid (∀ w' : World, Below wa.heap.size wa w' → Calls Tryz.prog 85 #[.agg #[.int .i64 x.kind, .slice A2 x.set.length c2, .slice K2 x.kids.length k2]] w' fun e w'' => e = .returned (.string (str X)) ∧ Below w'.heap.size w' w'') := fun w' hw => by rw [hX]; exact sTxt x p _ _ w' (HX.out.under hw) (HT.out x (.inr (List.mem_of_getElem? ex)))
      have j0 : (0 : Int) ≤ (k : Int) := by omega
      have j1 : (k : Int) < (n : Int) := by omega
      clear ev2 ev3 ex eL hx hX up
      by_cases hlt : X < S
      · have hl : Op.bytesLess (str X).toList (str S).toList = true := by rw [str_list, str_list, less_eq]; exact decide_eq_true hlt
        go_wp2_with (with_reducible refine (HTXX.out wr HW.out).mono ?_; rintro e w2 ⟨rfl, hb2⟩; replace hb2 := Lib.hid (below_then HW.out hb2))
        go_roundg (gk - 1)
        case measure => omega
        case rel =>
          refine ⟨k + 1, by go_num, by omega, fun j y hj hy => ?_, hb2⟩
          rcases Nat.lt_or_ge j k with h | h
          · exact HLT.out j y h hy
          · obtain rfl : j = k := by omega
            obtain rfl : x = y := Option.some.inj (EX.out.symm.trans hy)
            rw [← HXX.out]; exact hlt
      · have hl : Op.bytesLess (str X).toList (str S).toList = false := by rw [str_list, str_list, less_eq]; exact decide_eq_false hlt
        go_upto_region 5 with (with_reducible refine (HTXX.out wr HW.out).mono ?_; rintro e w2 ⟨rfl, hb2⟩; replace hb2 := Lib.hid (below_then HW.out hb2))
        have up : ∀ {q : Addr} {u : Value}, wa.cell? q = some u → w2.cell? q = some u := fun {q u} h => (hb2.out.cell (World.block_lt_of_cell? wa q h)).trans h
        replace x0 := up X0.out
        replace x1 := up X1.out
        replace x2 := up X2.out
        clear up hl
        by_cases heq : X = S
        · have hl : ((str X).toList == (str S).toList) = true := by rw [heq]; exact beq_self_eq_true _
          go_wp2_with (with_reducible refine (HTXX.out w2 hb2.out).mono ?_; rintro e w3 ⟨rfl, hb3⟩; replace hb3 := Lib.hid (below_then hb2.out hb3))
          go_ret
          have hput : put l r = l := (put_at l r k (by have := HN.out; omega) (fun j y hj hy => by rw [← HS.out]; exact HLT.out j y hj hy) (fun y hy => by
            obtain rfl : x = y := Option.some.inj (EX.out.symm.trans hy)
            rw [← HXX.out, ← HS.out]; exact hlt)).1 x EX.out (by rw [← HXX.out, ← HS.out]; exact heq)
          refine ⟨g, n, c, L, rfl, by rw [hput]; exact HN.out, by rw [hput]; exact HO.out.under hb3.out, grown_blw (below_then HB.out hb3.out), .inl rfl⟩
        · have hl : ((str X).toList == (str S).toList) = false := by rw [str_list, str_list]; exact beq_eq_false_iff_ne.2 heq
          go_upto_region 7 with (with_reducible refine (HTXX.out w2 hb2.out).mono ?_; rintro e w3 ⟨rfl, hb3⟩; replace hb3 := Lib.hid (below_then hb2.out hb3))
          have hput : Hid (put l r = l.take k ++ r :: l.drop k) := (put_at l r k (by have := HN.out; omega) (fun j y hj hy => by rw [← HS.out]; exact HLT.out j y hj hy) (fun y hy => by
            obtain rfl : x = y := Option.some.inj (EX.out.symm.trans hy)
            rw [← HXX.out, ← HS.out]; exact hlt)).2 (fun y hy => by
            obtain rfl : x = y := Option.some.inj (EX.out.symm.trans hy)
            rw [← HXX.out, ← HS.out]; exact heq)
          have hkle : k ≤ n := by omega
          have hkc : k < c := by have := own_cap HO.out.own; have := HN.out; omega
          have hk1 : ¬ c = k := by omega
          have hk2 : ¬ k = c := by omega
          have HTL : Hid (Row w3 base (some ⟨g, k * 3, none⟩) (kcells (l.drop k) (L.drop k))) := by
            show Row _ _ _ _
            rw [kcells_drop _ _ _ HO.out.len.symm]
            exact row_drop (HO.out.under hb3.out).rowOf
          clear x0 x1 x2 X0 X1 X2 hl heq hlt HX EX HXX HTXX j0 j1 hkn HLT HW hb2 hqk
          have z0 : (0 : Int) ≤ (k : Int) := by omega
          have z1 : (k : Int) ≤ (n : Int) := by omega
          obtain ⟨i1, hi, hz0, hza, hz2⟩ := info_parts infoRx
          have HOL := HO.out.len
          have hkl : (kcells (l.drop k) (L.drop k)).length = (n - k) * 3 := by rw [kcells_length _ _ (by rw [List.length_drop, List.length_drop, HOL]), List.length_drop, ← HN.out]
          have OE : Hid ((w3.alloc (.cells #[] TRx)).ownsRow w3.heap.size TRx 3 (.slice (some ⟨w3.heap.size, 0, none⟩) 0 0) 0 []) := World.ownsRow_made w3 #[] 0 (Nat.le_refl _) (by decide) rfl
          have HTL1 := Lib.hid (HTL.out.below (below_alloc (Below.refl w3.heap.size w3) (.cells #[] TRx)))
          have ONE : Hid (∀ u ∈ kcells (l.drop k) (L.drop k), u.oneCell' = true) := by
            show ∀ u ∈ _, _
            rw [kcells_drop _ _ _ HOL.symm]
            exact fun u hu => HO.out.ones u (List.mem_of_mem_drop hu)
          have zkc : k ≤ c := by have := own_cap HO.out.own; have := HN.out; omega
          clear HOL
          go_wp2_with (refine wpList_append_row (by rfl) (.tmp 39) (.tmp 42) 24 (by rfl) w3.heap.size TRx i1 (.agg #[.int .i64 0, nilS, nilS]) 3 56 Tryz.underlying24 hi hz0 hza hz2 rfl (by decide) _ 0 [] (by rfl) OE.out _ (n - k) _ (kcells (l.drop k) (L.drop k)) (by rfl) HTL1.out hkl ONE.out (by unfold maxLen; omega) (by omega) (by simp) _ rfl (n - k) (by omega) ?_; intro A5 c5 w5 hown5 hgrow5 hat5; replace hown5 := Lib.hid hown5; replace hgrow5 := Lib.hid hgrow5; replace hat5 := Lib.hid hat5)
          have hw3 := hb3.out.size
          have HZA := HZ.out
          have B5 : Hid (Below wa.heap.size wa w5) := Lib.hid ((below_then hb3.out (below_alloc (Below.refl _ _) _)).grown hgrow5.out (below_then hb3.out (below_alloc (Below.refl _ _) _)).size (fun q hq => by have h1 := Option.some.inj hq; have h2 : w3.heap.size = q := h1; omega))
          have O5 : Hid (OwnR w5 w3.heap.size p (.slice A5 (n - k) c5) (l.drop k) (L.drop k)) := OwnR.mkv (by rw [List.length_drop, ← HN.out]; simpa using hown5.out) (by rw [List.length_drop, List.length_drop, HO.out.len]) (by rw [List.length_drop, ← HN.out]; unfold maxN; omega) (fun b hb hv => by have := HP.out b hb; have := (own_vlt hown5.out b hv).1; omega) (fun i r' x' a b => by
            rw [List.getElem?_drop] at a b
            exact (HO.out.reads (k + i) r' x' a b).under B5.out)
          clear hown5 hgrow5 hat5 OE HTL1 HTL ONE hkl
          have HC : Hid (∀ w' : World, w'.heap[w.heap.size]? = wa.heap[w.heap.size]? → w'.cell? ⟨w.heap.size, 0, none⟩ = some (.int .i64 r.kind) ∧ w'.cell? ⟨w.heap.size, 1, none⟩ = some (.slice B r.set.length d) ∧ w'.cell? ⟨w.heap.size, 2, none⟩ = some (.slice KR r.kids.length dk)) := fun w' h => by
            have M : Blk w' w.heap.size #[.int .i64 r.kind, .slice B r.set.length d, .slice KR r.kids.length dk] TRx := ⟨h.trans MR.out.eq⟩
            exact ⟨by rw [M.cell]; rfl, by rw [M.cell]; rfl, by rw [M.cell]; rfl⟩
          have B5d := Lib.hid (below_then B5.out (below_drew (Below.refl w5.heap.size w5)))
          refine wp_region_held_drew (S := fun w' => w'.cell? ⟨w.heap.size, 0, none⟩ = some (.int .i64 r.kind) ∧ w'.cell? ⟨w.heap.size, 1, none⟩ = some (.slice B r.set.length d) ∧ w'.cell? ⟨w.heap.size, 2, none⟩ = some (.slice KR r.kids.length dk)) (by kernel_rfl) (HC.out _ (B5d.out.block _ HZ.out)) (fun hHeld0 => ?_)
          refine wpAnyH_take (i := 0) (v := ?_) rfl (by kernel_rfl) (by kernel_rfl) (by kernel_rfl) (fun _ _ _ h => h) (Or.inl ⟨by rfl, ?_⟩) (by assumption) ?_
          rotate_left
          · (intro w hSw; (try dsimp only at hSw); go_simp; try with_reducible rfl)
          try simp only [Act.put, List.getElem_toArray, List.getElem_cons_zero, List.getElem_cons_succ, List.setIfInBounds_toArray, List.set_cons_zero, List.set_cons_succ]
          refine wpAnyH_take (i := 1) (v := ?_) rfl (by kernel_rfl) (by kernel_rfl) (by kernel_rfl) (fun _ _ _ h => h) (Or.inl ⟨by rfl, ?_⟩) (by assumption) ?_
          rotate_left
          · (intro w hSw; (try dsimp only at hSw); go_simp; try with_reducible rfl)
          try simp only [Act.put, List.getElem_toArray, List.getElem_cons_zero, List.getElem_cons_succ, List.setIfInBounds_toArray, List.set_cons_zero, List.set_cons_succ]
          refine wpAnyH_take (i := 2) (v := ?_) rfl (by kernel_rfl) (by kernel_rfl) (by kernel_rfl) (fun _ _ _ h => h) (Or.inl ⟨by rfl, ?_⟩) (by assumption) ?_
          rotate_left
          · (intro w hSw; (try dsimp only at hSw); go_simp; try with_reducible rfl)
          try simp only [Act.put, List.getElem_toArray, List.getElem_cons_zero, List.getElem_cons_succ, List.setIfInBounds_toArray, List.set_cons_zero, List.set_cons_succ]
          refine wpAnyH_take (i := 3) (v := ?_) rfl (by kernel_rfl) (by kernel_rfl) (by kernel_rfl) (fun _ _ _ h => h) (Or.inl ⟨by rfl, ?_⟩) (by assumption) ?_
          rotate_left
          · (intro w hSw; (try dsimp only at hSw); go_simp; try with_reducible rfl)
          try simp only [Act.put, List.getElem_toArray, List.getElem_cons_zero, List.getElem_cons_succ, List.setIfInBounds_toArray, List.set_cons_zero, List.set_cons_succ]
          refine wpAnyH_take (i := 6) (v := ?_) rfl (by kernel_rfl) (by kernel_rfl) (by kernel_rfl) (fun _ _ _ h => h) (Or.inl ⟨by rfl, ?_⟩) (by assumption) ?_
          rotate_left
          · (intro w hSw; (try dsimp only at hSw); go_simp; try with_reducible rfl)
          try simp only [Act.put, List.getElem_toArray, List.getElem_cons_zero, List.getElem_cons_succ, List.setIfInBounds_toArray, List.set_cons_zero, List.set_cons_succ]
          refine wpAnyH_ready (rs := [4]) (by kernel_rfl) (by simp) ?_
          refine AllReadyH.cons (o := ⟨some 48, _, _, _, _, _⟩) rfl (fun K hK => ?_) AllReadyH.nil
          go_simp
          obtain ⟨F, hF⟩ : ∃ z : Nat, z = w5.heap.size := ⟨_, rfl⟩
          obtain ⟨wF, hwF⟩ : ∃ z : World, z = (w5.alloc (.cells #[.int .i64 r.kind, .slice B r.set.length d, .slice KR r.kids.length dk] TRx)).drew := ⟨_, rfl⟩
          have MF : Hid (Blk wF F #[.int .i64 r.kind, .slice B r.set.length d, .slice KR r.kids.length dk] TRx) := by rw [hwF, hF]; exact (blk_new w5 #[.int .i64 r.kind, .slice B r.set.length d, .slice KR r.kids.length dk] TRx).below (below_drew (Below.refl _ _))
          have B5F : Hid (Below w5.heap.size w5 wF) := by rw [hwF]; exact Lib.hid (below_then (below_alloc (Below.refl w5.heap.size w5) _) (below_drew (Below.refl _ _)))
          have BF : Hid (Below wa.heap.size wa wF) := Lib.hid (below_then B5.out B5F.out)
          have HF := Lib.hid hF
          have hzF := B5F.out.size
          rw [← hwF, ← hF]
          clear hwF hF
          refine hK.out _ _ (HC.out wF (BF.out.block _ HZ.out)) (fun hHeld1 => ?_)
          clear hK K hHeld0
          try simp only [Act.put, List.getElem_toArray, List.getElem_cons_zero, List.getElem_cons_succ, List.setIfInBounds_toArray, List.set_cons_zero, List.set_cons_succ]
          refine wpAnyH_ready (rs := [5]) (by kernel_rfl) (by simp) ?_
          refine AllReadyH.cons (o := ⟨some 49, _, _, _, _, _⟩) rfl (fun K hK => ?_) AllReadyH.nil
          have hw5 := B5.out.size
          have HF1 := HF.out
          have HPF : Hid (∀ b, p b → b < F) := fun b hb => by have := HP.out b hb; omega
          have OK : Hid (OwnR wF base p (.slice (some ⟨g, 0, none⟩) k c) (l.take k) (L.take k)) := (HO.out.under BF.out).takev HN.out hkle (fun b hb => (HP.out b hb).1)
          have OF : Hid (OwnR wF F p (.slice (some ⟨F, 0, none⟩) 1 1) [r] [⟨[], .slice B r.set.length d, .slice KR r.kids.length dk⟩]) := OwnR.one MF.out (Nat.le_refl _) HPF.out (HR.out.under BF.out)
          have hlk : (l.take k).length = k := by rw [List.length_take, ← HN.out]; omega
          have OWK : Hid (wF.ownsRow base TRx 3 (.slice (some ⟨g, 0, none⟩) k c) k (kcells (l.take k) (L.take k))) := by have := OK.out.own; rw [hlk] at this; exact this
          refine step_append_row (by rfl) (.tmp 46) (.tmp 48) 24 (by rfl) base TRx i1 (.agg #[.int .i64 0, nilS, nilS]) 3 56 Tryz.underlying24 hi hz0 hza hz2 rfl (by decide) (.slice (some ⟨g, 0, none⟩) k c) k (kcells (l.take k) (L.take k)) (by rfl) OWK.out (some ⟨F, 0, none⟩) 1 1 _ (by rfl) OF.out.rowOf rfl OF.out.ones (by unfold maxLen; omega) (by omega) (by omega) _ rfl (k + 1) rfl ?_
          intro A6 c6 w6 hown6 hgrow6 hat6
          have hg1 := HGL.out
          have hg2 := HGB.out
          have hF6 := hgrow6.size
          have K6 : Hid (∀ b, b < wF.heap.size → b ≠ g → w6.heap[b]? = wF.heap[b]?) := fun b hb hne => hgrow6.block b hb fun e => hne (Option.some.inj e)
          have O6 : Hid (OwnR w6 base p (.slice A6 (k + 1) c6) (l.take k ++ [r]) (L.take k ++ [⟨[], .slice B r.set.length d, .slice KR r.kids.length dk⟩])) :=
            OK.out.appv OF.out (fun b hb hv => by
              have h1 := HP.out b hb
              rcases hat6 b hv with h | h
              · rw [vblk_some] at h
                have h2 := List.mem_singleton.1 h
                omega
              · omega) (by rw [hlk]; exact hown6) (fun b hb hl => K6.out b hl (by have := HP.out b hb; omega)) (by rw [hlk]; show k + 1 ≤ maxN; unfold maxN; omega)
          have O56 : Hid (OwnR w6 w3.heap.size p (.slice A5 (n - k) c5) (l.drop k) (L.drop k)) := (O5.out.under B5F.out).keep (fun b hb => by
              have h1 := own_vlt O5.out.own b hb
              exact K6.out b (by omega) (by omega)) (fun b hb hl => K6.out b hl (by have := HP.out b hb; omega))
          have hl6 : (l.take k ++ [r]).length = k + 1 := by rw [List.length_append, hlk]; rfl
          have hld : (l.drop k).length = (n - k) := by rw [List.length_drop, ← HN.out] <;> omega
          have OW6 : Hid (w6.ownsRow base TRx 3 (.slice A6 (k + 1) c6) (k + 1) (kcells (l.take k ++ [r]) (L.take k ++ [⟨[], .slice B r.set.length d, .slice KR r.kids.length dk⟩]))) := by have := O6.out.own; rw [hl6] at this; exact this
          have hkd : (kcells (l.drop k) (L.drop k)).length = (n - k) * 3 := by rw [kcells_length _ _ O56.out.len.symm, hld]
          have H6 := Lib.hid hgrow6
          have A6V : Hid (∀ b, b ∈ vblk (.slice A6 (k + 1) c6) → b = g ∨ b = wF.heap.size) := fun b hb => by
            rcases hat6 b hb with h | h
            · rw [vblk_some] at h; exact .inl (List.mem_singleton.1 h)
            · exact .inr h
          clear hown6 hgrow6 hat6 OWK
          (try go_wp2_with fail)
          refine hK.out _ _ (HC.out w6 ((K6.out _ (by omega) (by omega)).trans (BF.out.block _ HZ.out))) (fun hHeld2 => ?_)
          clear hK K hHeld1
          try simp only [Act.put, List.getElem_toArray, List.getElem_cons_zero, List.getElem_cons_succ, List.setIfInBounds_toArray, List.set_cons_zero, List.set_cons_succ]
          refine wpAnyH_ready (rs := [7]) (by kernel_rfl) (by simp) ?_
          refine AllReadyH.cons (o := ⟨some 51, _, _, _, _, _⟩) rfl (fun K hK => ?_) AllReadyH.nil
          refine step_append_row (by rfl) (.tmp 49) (.tmp 50) 24 (by rfl) base TRx i1 (.agg #[.int .i64 0, nilS, nilS]) 3 56 Tryz.underlying24 hi hz0 hza hz2 rfl (by decide) (.slice A6 (k + 1) c6) (k + 1) _ (by rfl) OW6.out A5 (n - k) c5 _ (by rfl) O56.out.rowOf hkd O56.out.ones (by unfold maxLen; omega) (by omega) (by omega) _ rfl (n + 1) (by omega) ?_
          intro A7 c7 w7 hown7 hgrow7 hat7
          have F7 : Hid (PutPost base p l r (some g) w (.returned (.slice A7 (n + 1) c7)) w7) := by
            obtain ⟨g7, cap7, e7, hb7, _⟩ := own_form hown7 (by omega)
            injection e7 with e7 e8 e9
            subst e7
            have K7 : ∀ b, b < w6.heap.size → b ∉ vblk (.slice A6 (k + 1) c6) → w7.heap[b]? = w6.heap[b]? := fun b hb hne => hgrow7.block b hb fun e => hne (mem_vblk.2 e.symm)
            have hpl : put l r = (l.take k ++ [r]) ++ l.drop k := by rw [hput.out]; simp
            refine ⟨g7, n + 1, c7, (L.take k ++ [⟨[], .slice B r.set.length d, .slice KR r.kids.length dk⟩]) ++ L.drop k, rfl, ?_, ?_, ?_, ?_⟩
            · rw [hpl, List.length_append, hl6, hld]; omega
            · rw [hpl]
              exact O6.out.appv O56.out (fun b hb hv => by
                have h1 := HP.out b hb
                rcases hat7 b hv with h | h
                · rcases A6V.out b h with h | h <;> omega
                · omega) (by rw [hl6, hld, show k + 1 + (n - k) = n + 1 by omega]; exact hown7) (fun b hb hl => K7 b hl fun hv => by
                have h1 := HP.out b hb
                rcases A6V.out b hv with h | h <;> omega) (by rw [hl6, hld]; unfold maxN; omega)
            · exact grown_fin (below_then HB.out BF.out) H6.out hgrow7 (fun b hb => by rcases A6V.out b hb with h | h <;> omega)
            · rcases hat7 g7 (by simp [vblk_some]) with h | h
              · rcases A6V.out g7 h with h | h
                · exact .inl (congrArg some h)
                · exact .inr (by omega)
              · exact .inr (by omega)
          have S7 : Hid (w7.heap[w.heap.size]? = wa.heap[w.heap.size]?) := by
            show _ = _
            rw [hgrow7.block _ (by omega) (fun e => by
              rcases A6V.out _ (mem_vblk.2 e.symm) with h | h <;> omega)]
            exact (K6.out _ (by omega) (by omega)).trans (BF.out.block _ HZ.out)
          clear hown7 hgrow7 hat7
          refine hK.out _ _ (HC.out w7 S7.out) (fun hHeld3 => ?_)
          clear hK K hHeld2
          try simp only [Act.put, List.getElem_toArray, List.getElem_cons_zero, List.getElem_cons_succ, List.setIfInBounds_toArray, List.set_cons_zero, List.set_cons_succ]
          refine wpAnyH_take (i := 8) (v := ?_) rfl (by kernel_rfl) (by kernel_rfl) (by kernel_rfl) (fun _ _ _ h => h) (Or.inl ⟨by rfl, ?_⟩) (by assumption) ?_
          rotate_left
          · (intro w hSw; (try dsimp only at hSw); go_simp; try with_reducible rfl)
          try simp only [Act.put, List.getElem_toArray, List.getElem_cons_zero, List.getElem_cons_succ, List.setIfInBounds_toArray, List.set_cons_zero, List.set_cons_succ]
          refine wpAnyH_done (by kernel_rfl) ?_ _
          clear hHeld3 HC
          go_wp2_with fail
          go_ret
          exact F7.out
    · have j1 : ¬ (k : Int) < (n : Int) := by omega
      have j2 : n ≤ k := by omega
      go_upto_region 7 with fail
      have hb3 := HW
      have hput : Hid (put l r = l.take k ++ r :: l.drop k) := (put_at l r k (by have := HN.out; omega) (fun j y hj hy => by rw [← HS.out]; exact HLT.out j y hj hy) (fun y hy => by
        rw [List.getElem?_eq_none (by have := HN.out; omega)] at hy; cases hy)).2 (fun y hy => by
        rw [List.getElem?_eq_none (by have := HN.out; omega)] at hy; cases hy)
      have hkle : k ≤ n := by omega
      have EN : Hid (∀ B : Option Addr, Row wr base B (kcells (l.drop k) (L.drop k))) := fun B => .inl (by rw [List.drop_of_length_le (by have := HN.out; omega)]; rfl)
      clear HLT HW hqk hkn HTX
      by_cases hck : k = c
      · subst hck
        have z0 : (0 : Int) ≤ (k : Int) := by omega
        have z1 : (k : Int) ≤ (n : Int) := by omega
        obtain ⟨i1, hi, hz0, hza, hz2⟩ := info_parts infoRx
        have zkc : k ≤ k := by have := own_cap HO.out.own; have := HN.out; omega
        have OE : Hid ((wr.alloc (.cells #[] TRx)).ownsRow wr.heap.size TRx 3 (.slice (some ⟨wr.heap.size, 0, none⟩) 0 0) 0 []) := World.ownsRow_made wr #[] 0 (Nat.le_refl _) (by decide) rfl
        go_wp2_with fail
        have hw3 := hb3.out.size
        have HZA := HZ.out
        obtain ⟨w5, hw5⟩ : ∃ z, z = wr.alloc (.cells #[] TRx) := ⟨_, rfl⟩
        have B5 : Hid (Below wa.heap.size wa w5) := by rw [hw5]; exact Lib.hid (below_then hb3.out (below_alloc (Below.refl _ _) _))
        have O5 : Hid (OwnR w5 wr.heap.size p (.slice (some ⟨wr.heap.size, 0, none⟩) 0 0) (l.drop k) (L.drop k)) := by
          rw [hw5, List.drop_of_length_le (by have := HN.out; omega), List.drop_of_length_le (by have := HN.out; have := HO.out.len; omega)]
          exact Lib.hid ⟨OE.out, rfl, by simp, fun i r' x' a b => by simp at a⟩
        rw [← hw5]
        clear OE hw5 EN
        have HC : Hid (∀ w' : World, w'.heap[w.heap.size]? = wa.heap[w.heap.size]? → w'.cell? ⟨w.heap.size, 0, none⟩ = some (.int .i64 r.kind) ∧ w'.cell? ⟨w.heap.size, 1, none⟩ = some (.slice B r.set.length d) ∧ w'.cell? ⟨w.heap.size, 2, none⟩ = some (.slice KR r.kids.length dk)) := fun w' h => by
          have M : Blk w' w.heap.size #[.int .i64 r.kind, .slice B r.set.length d, .slice KR r.kids.length dk] TRx := ⟨h.trans MR.out.eq⟩
          exact ⟨by rw [M.cell]; rfl, by rw [M.cell]; rfl, by rw [M.cell]; rfl⟩
        have B5d := Lib.hid (below_then B5.out (below_drew (Below.refl w5.heap.size w5)))
        refine wp_region_held_drew (S := fun w' => w'.cell? ⟨w.heap.size, 0, none⟩ = some (.int .i64 r.kind) ∧ w'.cell? ⟨w.heap.size, 1, none⟩ = some (.slice B r.set.length d) ∧ w'.cell? ⟨w.heap.size, 2, none⟩ = some (.slice KR r.kids.length dk)) (by kernel_rfl) (HC.out _ (B5d.out.block _ HZ.out)) (fun hHeld0 => ?_)
        refine wpAnyH_take (i := 0) (v := ?_) rfl (by kernel_rfl) (by kernel_rfl) (by kernel_rfl) (fun _ _ _ h => h) (Or.inl ⟨by rfl, ?_⟩) (by assumption) ?_
        rotate_left
        · (intro w hSw; (try dsimp only at hSw); go_simp; try with_reducible rfl)
        try simp only [Act.put, List.getElem_toArray, List.getElem_cons_zero, List.getElem_cons_succ, List.setIfInBounds_toArray, List.set_cons_zero, List.set_cons_succ]
        refine wpAnyH_take (i := 1) (v := ?_) rfl (by kernel_rfl) (by kernel_rfl) (by kernel_rfl) (fun _ _ _ h => h) (Or.inl ⟨by rfl, ?_⟩) (by assumption) ?_
        rotate_left
        · (intro w hSw; (try dsimp only at hSw); go_simp; try with_reducible rfl)
        try simp only [Act.put, List.getElem_toArray, List.getElem_cons_zero, List.getElem_cons_succ, List.setIfInBounds_toArray, List.set_cons_zero, List.set_cons_succ]
        refine wpAnyH_take (i := 2) (v := ?_) rfl (by kernel_rfl) (by kernel_rfl) (by kernel_rfl) (fun _ _ _ h => h) (Or.inl ⟨by rfl, ?_⟩) (by assumption) ?_
        rotate_left
        · (intro w hSw; (try dsimp only at hSw); go_simp; try with_reducible rfl)
        try simp only [Act.put, List.getElem_toArray, List.getElem_cons_zero, List.getElem_cons_succ, List.setIfInBounds_toArray, List.set_cons_zero, List.set_cons_succ]
        refine wpAnyH_take (i := 3) (v := ?_) rfl (by kernel_rfl) (by kernel_rfl) (by kernel_rfl) (fun _ _ _ h => h) (Or.inl ⟨by rfl, ?_⟩) (by assumption) ?_
        rotate_left
        · (intro w hSw; (try dsimp only at hSw); go_simp; try with_reducible rfl)
        try simp only [Act.put, List.getElem_toArray, List.getElem_cons_zero, List.getElem_cons_succ, List.setIfInBounds_toArray, List.set_cons_zero, List.set_cons_succ]
        refine wpAnyH_take (i := 6) (v := ?_) rfl (by kernel_rfl) (by kernel_rfl) (by kernel_rfl) (fun _ _ _ h => h) (Or.inl ⟨by rfl, ?_⟩) (by assumption) ?_
        rotate_left
        · (intro w hSw; (try dsimp only at hSw); go_simp; try with_reducible rfl)
        try simp only [Act.put, List.getElem_toArray, List.getElem_cons_zero, List.getElem_cons_succ, List.setIfInBounds_toArray, List.set_cons_zero, List.set_cons_succ]
        refine wpAnyH_ready (rs := [4]) (by kernel_rfl) (by simp) ?_
        refine AllReadyH.cons (o := ⟨some 48, _, _, _, _, _⟩) rfl (fun K hK => ?_) AllReadyH.nil
        go_simp
        obtain ⟨F, hF⟩ : ∃ z : Nat, z = w5.heap.size := ⟨_, rfl⟩
        obtain ⟨wF, hwF⟩ : ∃ z : World, z = (w5.alloc (.cells #[.int .i64 r.kind, .slice B r.set.length d, .slice KR r.kids.length dk] TRx)).drew := ⟨_, rfl⟩
        have MF : Hid (Blk wF F #[.int .i64 r.kind, .slice B r.set.length d, .slice KR r.kids.length dk] TRx) := by rw [hwF, hF]; exact (blk_new w5 #[.int .i64 r.kind, .slice B r.set.length d, .slice KR r.kids.length dk] TRx).below (below_drew (Below.refl _ _))
        have B5F : Hid (Below w5.heap.size w5 wF) := by rw [hwF]; exact Lib.hid (below_then (below_alloc (Below.refl w5.heap.size w5) _) (below_drew (Below.refl _ _)))
        have BF : Hid (Below wa.heap.size wa wF) := Lib.hid (below_then B5.out B5F.out)
        have HF := Lib.hid hF
        have hzF := B5F.out.size
        rw [← hwF, ← hF]
        clear hwF hF
        refine hK.out _ _ (HC.out wF (BF.out.block _ HZ.out)) (fun hHeld1 => ?_)
        clear hK K hHeld0
        try simp only [Act.put, List.getElem_toArray, List.getElem_cons_zero, List.getElem_cons_succ, List.setIfInBounds_toArray, List.set_cons_zero, List.set_cons_succ]
        refine wpAnyH_ready (rs := [5]) (by kernel_rfl) (by simp) ?_
        refine AllReadyH.cons (o := ⟨some 49, _, _, _, _, _⟩) rfl (fun K hK => ?_) AllReadyH.nil
        have hw5 := B5.out.size
        have HF1 := HF.out
        have HPF : Hid (∀ b, p b → b < F) := fun b hb => by have := HP.out b hb; omega
        have OK : Hid (OwnR wF base p (.slice (some ⟨g, 0, none⟩) k k) (l.take k) (L.take k)) := (HO.out.under BF.out).takev HN.out hkle (fun b hb => (HP.out b hb).1)
        have OF : Hid (OwnR wF F p (.slice (some ⟨F, 0, none⟩) 1 1) [r] [⟨[], .slice B r.set.length d, .slice KR r.kids.length dk⟩]) := OwnR.one MF.out (Nat.le_refl _) HPF.out (HR.out.under BF.out)
        have hlk : (l.take k).length = k := by rw [List.length_take, ← HN.out]; omega
        have OWK : Hid (wF.ownsRow base TRx 3 (.slice (some ⟨g, 0, none⟩) k k) k (kcells (l.take k) (L.take k))) := by have := OK.out.own; rw [hlk] at this; exact this
        refine step_append_row (by rfl) (.tmp 46) (.tmp 48) 24 (by rfl) base TRx i1 (.agg #[.int .i64 0, nilS, nilS]) 3 56 Tryz.underlying24 hi hz0 hza hz2 rfl (by decide) (.slice (some ⟨g, 0, none⟩) k k) k (kcells (l.take k) (L.take k)) (by rfl) OWK.out (some ⟨F, 0, none⟩) 1 1 _ (by rfl) OF.out.rowOf rfl OF.out.ones (by unfold maxLen; omega) (by omega) (by omega) _ rfl (k + 1) rfl ?_
        intro A6 c6 w6 hown6 hgrow6 hat6
        have hg1 := HGL.out
        have hg2 := HGB.out
        have hF6 := hgrow6.size
        have K6 : Hid (∀ b, b < wF.heap.size → b ≠ g → w6.heap[b]? = wF.heap[b]?) := fun b hb hne => hgrow6.block b hb fun e => hne (Option.some.inj e)
        have O6 : Hid (OwnR w6 base p (.slice A6 (k + 1) c6) (l.take k ++ [r]) (L.take k ++ [⟨[], .slice B r.set.length d, .slice KR r.kids.length dk⟩])) :=
          OK.out.appv OF.out (fun b hb hv => by
            have h1 := HP.out b hb
            rcases hat6 b hv with h | h
            · rw [vblk_some] at h
              have h2 := List.mem_singleton.1 h
              omega
            · omega) (by rw [hlk]; exact hown6) (fun b hb hl => K6.out b hl (by have := HP.out b hb; omega)) (by rw [hlk]; show k + 1 ≤ maxN; unfold maxN; omega)
        have O56 : Hid (OwnR w6 wr.heap.size p (.slice (some ⟨wr.heap.size, 0, none⟩) 0 0) (l.drop k) (L.drop k)) := (O5.out.under B5F.out).keep (fun b hb => by
            have h1 := own_vlt O5.out.own b hb
            exact K6.out b (by omega) (by omega)) (fun b hb hl => K6.out b hl (by have := HP.out b hb; omega))
        have hl6 : (l.take k ++ [r]).length = k + 1 := by rw [List.length_append, hlk]; rfl
        have hld : (l.drop k).length = 0 := by rw [List.length_drop, ← HN.out] <;> omega
        have OW6 : Hid (w6.ownsRow base TRx 3 (.slice A6 (k + 1) c6) (k + 1) (kcells (l.take k ++ [r]) (L.take k ++ [⟨[], .slice B r.set.length d, .slice KR r.kids.length dk⟩]))) := by have := O6.out.own; rw [hl6] at this; exact this
        have hkd : (kcells (l.drop k) (L.drop k)).length = 0 * 3 := by rw [kcells_length _ _ O56.out.len.symm, hld]
        have H6 := Lib.hid hgrow6
        have A6V : Hid (∀ b, b ∈ vblk (.slice A6 (k + 1) c6) → b = g ∨ b = wF.heap.size) := fun b hb => by
          rcases hat6 b hb with h | h
          · rw [vblk_some] at h; exact .inl (List.mem_singleton.1 h)
          · exact .inr h
        clear hown6 hgrow6 hat6 OWK
        (try go_wp2_with fail)
        refine hK.out _ _ (HC.out w6 ((K6.out _ (by omega) (by omega)).trans (BF.out.block _ HZ.out))) (fun hHeld2 => ?_)
        clear hK K hHeld1
        try simp only [Act.put, List.getElem_toArray, List.getElem_cons_zero, List.getElem_cons_succ, List.setIfInBounds_toArray, List.set_cons_zero, List.set_cons_succ]
        refine wpAnyH_ready (rs := [7]) (by kernel_rfl) (by simp) ?_
        refine AllReadyH.cons (o := ⟨some 51, _, _, _, _, _⟩) rfl (fun K hK => ?_) AllReadyH.nil
        refine step_append_row (by rfl) (.tmp 49) (.tmp 50) 24 (by rfl) base TRx i1 (.agg #[.int .i64 0, nilS, nilS]) 3 56 Tryz.underlying24 hi hz0 hza hz2 rfl (by decide) (.slice A6 (k + 1) c6) (k + 1) _ (by rfl) OW6.out (some ⟨wr.heap.size, 0, none⟩) 0 0 _ (by rfl) O56.out.rowOf hkd O56.out.ones (by unfold maxLen; omega) (by omega) (by omega) _ rfl (n + 1) (by omega) ?_
        intro A7 c7 w7 hown7 hgrow7 hat7
        have F7 : Hid (PutPost base p l r (some g) w (.returned (.slice A7 (n + 1) c7)) w7) := by
          obtain ⟨g7, cap7, e7, hb7, _⟩ := own_form hown7 (by omega)
          injection e7 with e7 e8 e9
          subst e7
          have K7 : ∀ b, b < w6.heap.size → b ∉ vblk (.slice A6 (k + 1) c6) → w7.heap[b]? = w6.heap[b]? := fun b hb hne => hgrow7.block b hb fun e => hne (mem_vblk.2 e.symm)
          have hpl : put l r = (l.take k ++ [r]) ++ l.drop k := by rw [hput.out]; simp
          refine ⟨g7, n + 1, c7, (L.take k ++ [⟨[], .slice B r.set.length d, .slice KR r.kids.length dk⟩]) ++ L.drop k, rfl, ?_, ?_, ?_, ?_⟩
          · rw [hpl, List.length_append, hl6, hld]; omega
          · rw [hpl]
            exact O6.out.appv O56.out (fun b hb hv => by
              have h1 := HP.out b hb
              rcases hat7 b hv with h | h
              · rcases A6V.out b h with h | h <;> omega
              · omega) (by rw [hl6, hld, show k + 1 + 0 = n + 1 by omega]; exact hown7) (fun b hb hl => K7 b hl fun hv => by
              have h1 := HP.out b hb
              rcases A6V.out b hv with h | h <;> omega) (by rw [hl6, hld]; unfold maxN; omega)
          · exact grown_fin (below_then HB.out BF.out) H6.out hgrow7 (fun b hb => by rcases A6V.out b hb with h | h <;> omega)
          · rcases hat7 g7 (by simp [vblk_some]) with h | h
            · rcases A6V.out g7 h with h | h
              · exact .inl (congrArg some h)
              · exact .inr (by omega)
            · exact .inr (by omega)
        have S7 : Hid (w7.heap[w.heap.size]? = wa.heap[w.heap.size]?) := by
          show _ = _
          rw [hgrow7.block _ (by omega) (fun e => by
            rcases A6V.out _ (mem_vblk.2 e.symm) with h | h <;> omega)]
          exact (K6.out _ (by omega) (by omega)).trans (BF.out.block _ HZ.out)
        clear hown7 hgrow7 hat7
        refine hK.out _ _ (HC.out w7 S7.out) (fun hHeld3 => ?_)
        clear hK K hHeld2
        try simp only [Act.put, List.getElem_toArray, List.getElem_cons_zero, List.getElem_cons_succ, List.setIfInBounds_toArray, List.set_cons_zero, List.set_cons_succ]
        refine wpAnyH_take (i := 8) (v := ?_) rfl (by kernel_rfl) (by kernel_rfl) (by kernel_rfl) (fun _ _ _ h => h) (Or.inl ⟨by rfl, ?_⟩) (by assumption) ?_
        rotate_left
        · (intro w hSw; (try dsimp only at hSw); go_simp; try with_reducible rfl)
        try simp only [Act.put, List.getElem_toArray, List.getElem_cons_zero, List.getElem_cons_succ, List.setIfInBounds_toArray, List.set_cons_zero, List.set_cons_succ]
        refine wpAnyH_done (by kernel_rfl) ?_ _
        clear hHeld3 HC
        go_wp2_with fail
        go_ret
        exact F7.out
      · have hk1 : ¬ c = k := fun e => hck e.symm
        have z0 : (0 : Int) ≤ (k : Int) := by omega
        have z1 : (k : Int) ≤ (n : Int) := by omega
        obtain ⟨i1, hi, hz0, hza, hz2⟩ := info_parts infoRx
        have zkc : k ≤ c := by have := own_cap HO.out.own; have := HN.out; omega
        have OE : Hid ((wr.alloc (.cells #[] TRx)).ownsRow wr.heap.size TRx 3 (.slice (some ⟨wr.heap.size, 0, none⟩) 0 0) 0 []) := World.ownsRow_made wr #[] 0 (Nat.le_refl _) (by decide) rfl
        go_wp2_with fail
        have hw3 := hb3.out.size
        have HZA := HZ.out
        obtain ⟨w5, hw5⟩ : ∃ z, z = wr.alloc (.cells #[] TRx) := ⟨_, rfl⟩
        have B5 : Hid (Below wa.heap.size wa w5) := by rw [hw5]; exact Lib.hid (below_then hb3.out (below_alloc (Below.refl _ _) _))
        have O5 : Hid (OwnR w5 wr.heap.size p (.slice (some ⟨wr.heap.size, 0, none⟩) 0 0) (l.drop k) (L.drop k)) := by
          rw [hw5, List.drop_of_length_le (by have := HN.out; omega), List.drop_of_length_le (by have := HN.out; have := HO.out.len; omega)]
          exact Lib.hid ⟨OE.out, rfl, by simp, fun i r' x' a b => by simp at a⟩
        rw [← hw5]
        clear OE hw5 EN
        have HC : Hid (∀ w' : World, w'.heap[w.heap.size]? = wa.heap[w.heap.size]? → w'.cell? ⟨w.heap.size, 0, none⟩ = some (.int .i64 r.kind) ∧ w'.cell? ⟨w.heap.size, 1, none⟩ = some (.slice B r.set.length d) ∧ w'.cell? ⟨w.heap.size, 2, none⟩ = some (.slice KR r.kids.length dk)) := fun w' h => by
          have M : Blk w' w.heap.size #[.int .i64 r.kind, .slice B r.set.length d, .slice KR r.kids.length dk] TRx := ⟨h.trans MR.out.eq⟩
          exact ⟨by rw [M.cell]; rfl, by rw [M.cell]; rfl, by rw [M.cell]; rfl⟩
        have B5d := Lib.hid (below_then B5.out (below_drew (Below.refl w5.heap.size w5)))
        refine wp_region_held_drew (S := fun w' => w'.cell? ⟨w.heap.size, 0, none⟩ = some (.int .i64 r.kind) ∧ w'.cell? ⟨w.heap.size, 1, none⟩ = some (.slice B r.set.length d) ∧ w'.cell? ⟨w.heap.size, 2, none⟩ = some (.slice KR r.kids.length dk)) (by kernel_rfl) (HC.out _ (B5d.out.block _ HZ.out)) (fun hHeld0 => ?_)
        refine wpAnyH_take (i := 0) (v := ?_) rfl (by kernel_rfl) (by kernel_rfl) (by kernel_rfl) (fun _ _ _ h => h) (Or.inl ⟨by rfl, ?_⟩) (by assumption) ?_
        rotate_left
        · (intro w hSw; (try dsimp only at hSw); go_simp; try with_reducible rfl)
        try simp only [Act.put, List.getElem_toArray, List.getElem_cons_zero, List.getElem_cons_succ, List.setIfInBounds_toArray, List.set_cons_zero, List.set_cons_succ]
        refine wpAnyH_take (i := 1) (v := ?_) rfl (by kernel_rfl) (by kernel_rfl) (by kernel_rfl) (fun _ _ _ h => h) (Or.inl ⟨by rfl, ?_⟩) (by assumption) ?_
        rotate_left
        · (intro w hSw; (try dsimp only at hSw); go_simp; try with_reducible rfl)
        try simp only [Act.put, List.getElem_toArray, List.getElem_cons_zero, List.getElem_cons_succ, List.setIfInBounds_toArray, List.set_cons_zero, List.set_cons_succ]
        refine wpAnyH_take (i := 2) (v := ?_) rfl (by kernel_rfl) (by kernel_rfl) (by kernel_rfl) (fun _ _ _ h => h) (Or.inl ⟨by rfl, ?_⟩) (by assumption) ?_
        rotate_left
        · (intro w hSw; (try dsimp only at hSw); go_simp; try with_reducible rfl)
        try simp only [Act.put, List.getElem_toArray, List.getElem_cons_zero, List.getElem_cons_succ, List.setIfInBounds_toArray, List.set_cons_zero, List.set_cons_succ]
        refine wpAnyH_take (i := 3) (v := ?_) rfl (by kernel_rfl) (by kernel_rfl) (by kernel_rfl) (fun _ _ _ h => h) (Or.inl ⟨by rfl, ?_⟩) (by assumption) ?_
        rotate_left
        · (intro w hSw; (try dsimp only at hSw); go_simp; try with_reducible rfl)
        try simp only [Act.put, List.getElem_toArray, List.getElem_cons_zero, List.getElem_cons_succ, List.setIfInBounds_toArray, List.set_cons_zero, List.set_cons_succ]
        refine wpAnyH_take (i := 6) (v := ?_) rfl (by kernel_rfl) (by kernel_rfl) (by kernel_rfl) (fun _ _ _ h => h) (Or.inl ⟨by rfl, ?_⟩) (by assumption) ?_
        rotate_left
        · (intro w hSw; (try dsimp only at hSw); go_simp; try with_reducible rfl)
        try simp only [Act.put, List.getElem_toArray, List.getElem_cons_zero, List.getElem_cons_succ, List.setIfInBounds_toArray, List.set_cons_zero, List.set_cons_succ]
        refine wpAnyH_ready (rs := [4]) (by kernel_rfl) (by simp) ?_
        refine AllReadyH.cons (o := ⟨some 48, _, _, _, _, _⟩) rfl (fun K hK => ?_) AllReadyH.nil
        go_simp
        obtain ⟨F, hF⟩ : ∃ z : Nat, z = w5.heap.size := ⟨_, rfl⟩
        obtain ⟨wF, hwF⟩ : ∃ z : World, z = (w5.alloc (.cells #[.int .i64 r.kind, .slice B r.set.length d, .slice KR r.kids.length dk] TRx)).drew := ⟨_, rfl⟩
        have MF : Hid (Blk wF F #[.int .i64 r.kind, .slice B r.set.length d, .slice KR r.kids.length dk] TRx) := by rw [hwF, hF]; exact (blk_new w5 #[.int .i64 r.kind, .slice B r.set.length d, .slice KR r.kids.length dk] TRx).below (below_drew (Below.refl _ _))
        have B5F : Hid (Below w5.heap.size w5 wF) := by rw [hwF]; exact Lib.hid (below_then (below_alloc (Below.refl w5.heap.size w5) _) (below_drew (Below.refl _ _)))
        have BF : Hid (Below wa.heap.size wa wF) := Lib.hid (below_then B5.out B5F.out)
        have HF := Lib.hid hF
        have hzF := B5F.out.size
        rw [← hwF, ← hF]
        clear hwF hF
        refine hK.out _ _ (HC.out wF (BF.out.block _ HZ.out)) (fun hHeld1 => ?_)
        clear hK K hHeld0
        try simp only [Act.put, List.getElem_toArray, List.getElem_cons_zero, List.getElem_cons_succ, List.setIfInBounds_toArray, List.set_cons_zero, List.set_cons_succ]
        refine wpAnyH_ready (rs := [5]) (by kernel_rfl) (by simp) ?_
        refine AllReadyH.cons (o := ⟨some 49, _, _, _, _, _⟩) rfl (fun K hK => ?_) AllReadyH.nil
        have hw5 := B5.out.size
        have HF1 := HF.out
        have HPF : Hid (∀ b, p b → b < F) := fun b hb => by have := HP.out b hb; omega
        have OK : Hid (OwnR wF base p (.slice (some ⟨g, 0, none⟩) k c) (l.take k) (L.take k)) := (HO.out.under BF.out).takev HN.out hkle (fun b hb => (HP.out b hb).1)
        have OF : Hid (OwnR wF F p (.slice (some ⟨F, 0, none⟩) 1 1) [r] [⟨[], .slice B r.set.length d, .slice KR r.kids.length dk⟩]) := OwnR.one MF.out (Nat.le_refl _) HPF.out (HR.out.under BF.out)
        have hlk : (l.take k).length = k := by rw [List.length_take, ← HN.out]; omega
        have OWK : Hid (wF.ownsRow base TRx 3 (.slice (some ⟨g, 0, none⟩) k c) k (kcells (l.take k) (L.take k))) := by have := OK.out.own; rw [hlk] at this; exact this
        refine step_append_row (by rfl) (.tmp 46) (.tmp 48) 24 (by rfl) base TRx i1 (.agg #[.int .i64 0, nilS, nilS]) 3 56 Tryz.underlying24 hi hz0 hza hz2 rfl (by decide) (.slice (some ⟨g, 0, none⟩) k c) k (kcells (l.take k) (L.take k)) (by rfl) OWK.out (some ⟨F, 0, none⟩) 1 1 _ (by rfl) OF.out.rowOf rfl OF.out.ones (by unfold maxLen; omega) (by omega) (by omega) _ rfl (k + 1) rfl ?_
        intro A6 c6 w6 hown6 hgrow6 hat6
        have hg1 := HGL.out
        have hg2 := HGB.out
        have hF6 := hgrow6.size
        have K6 : Hid (∀ b, b < wF.heap.size → b ≠ g → w6.heap[b]? = wF.heap[b]?) := fun b hb hne => hgrow6.block b hb fun e => hne (Option.some.inj e)
        have O6 : Hid (OwnR w6 base p (.slice A6 (k + 1) c6) (l.take k ++ [r]) (L.take k ++ [⟨[], .slice B r.set.length d, .slice KR r.kids.length dk⟩])) :=
          OK.out.appv OF.out (fun b hb hv => by
            have h1 := HP.out b hb
            rcases hat6 b hv with h | h
            · rw [vblk_some] at h
              have h2 := List.mem_singleton.1 h
              omega
            · omega) (by rw [hlk]; exact hown6) (fun b hb hl => K6.out b hl (by have := HP.out b hb; omega)) (by rw [hlk]; show k + 1 ≤ maxN; unfold maxN; omega)
        have O56 : Hid (OwnR w6 wr.heap.size p (.slice (some ⟨wr.heap.size, 0, none⟩) 0 0) (l.drop k) (L.drop k)) := (O5.out.under B5F.out).keep (fun b hb => by
            have h1 := own_vlt O5.out.own b hb
            exact K6.out b (by omega) (by omega)) (fun b hb hl => K6.out b hl (by have := HP.out b hb; omega))
        have hl6 : (l.take k ++ [r]).length = k + 1 := by rw [List.length_append, hlk]; rfl
        have hld : (l.drop k).length = 0 := by rw [List.length_drop, ← HN.out] <;> omega
        have OW6 : Hid (w6.ownsRow base TRx 3 (.slice A6 (k + 1) c6) (k + 1) (kcells (l.take k ++ [r]) (L.take k ++ [⟨[], .slice B r.set.length d, .slice KR r.kids.length dk⟩]))) := by have := O6.out.own; rw [hl6] at this; exact this
        have hkd : (kcells (l.drop k) (L.drop k)).length = 0 * 3 := by rw [kcells_length _ _ O56.out.len.symm, hld]
        have H6 := Lib.hid hgrow6
        have A6V : Hid (∀ b, b ∈ vblk (.slice A6 (k + 1) c6) → b = g ∨ b = wF.heap.size) := fun b hb => by
          rcases hat6 b hb with h | h
          · rw [vblk_some] at h; exact .inl (List.mem_singleton.1 h)
          · exact .inr h
        clear hown6 hgrow6 hat6 OWK
        (try go_wp2_with fail)
        refine hK.out _ _ (HC.out w6 ((K6.out _ (by omega) (by omega)).trans (BF.out.block _ HZ.out))) (fun hHeld2 => ?_)
        clear hK K hHeld1
        try simp only [Act.put, List.getElem_toArray, List.getElem_cons_zero, List.getElem_cons_succ, List.setIfInBounds_toArray, List.set_cons_zero, List.set_cons_succ]
        refine wpAnyH_ready (rs := [7]) (by kernel_rfl) (by simp) ?_
        refine AllReadyH.cons (o := ⟨some 51, _, _, _, _, _⟩) rfl (fun K hK => ?_) AllReadyH.nil
        refine step_append_row (by rfl) (.tmp 49) (.tmp 50) 24 (by rfl) base TRx i1 (.agg #[.int .i64 0, nilS, nilS]) 3 56 Tryz.underlying24 hi hz0 hza hz2 rfl (by decide) (.slice A6 (k + 1) c6) (k + 1) _ (by rfl) OW6.out (some ⟨wr.heap.size, 0, none⟩) 0 0 _ (by rfl) O56.out.rowOf hkd O56.out.ones (by unfold maxLen; omega) (by omega) (by omega) _ rfl (n + 1) (by omega) ?_
        intro A7 c7 w7 hown7 hgrow7 hat7
        have F7 : Hid (PutPost base p l r (some g) w (.returned (.slice A7 (n + 1) c7)) w7) := by
          obtain ⟨g7, cap7, e7, hb7, _⟩ := own_form hown7 (by omega)
          injection e7 with e7 e8 e9
          subst e7
          have K7 : ∀ b, b < w6.heap.size → b ∉ vblk (.slice A6 (k + 1) c6) → w7.heap[b]? = w6.heap[b]? := fun b hb hne => hgrow7.block b hb fun e => hne (mem_vblk.2 e.symm)
          have hpl : put l r = (l.take k ++ [r]) ++ l.drop k := by rw [hput.out]; simp
          refine ⟨g7, n + 1, c7, (L.take k ++ [⟨[], .slice B r.set.length d, .slice KR r.kids.length dk⟩]) ++ L.drop k, rfl, ?_, ?_, ?_, ?_⟩
          · rw [hpl, List.length_append, hl6, hld]; omega
          · rw [hpl]
            exact O6.out.appv O56.out (fun b hb hv => by
              have h1 := HP.out b hb
              rcases hat7 b hv with h | h
              · rcases A6V.out b h with h | h <;> omega
              · omega) (by rw [hl6, hld, show k + 1 + 0 = n + 1 by omega]; exact hown7) (fun b hb hl => K7 b hl fun hv => by
              have h1 := HP.out b hb
              rcases A6V.out b hv with h | h <;> omega) (by rw [hl6, hld]; unfold maxN; omega)
          · exact grown_fin (below_then HB.out BF.out) H6.out hgrow7 (fun b hb => by rcases A6V.out b hb with h | h <;> omega)
          · rcases hat7 g7 (by simp [vblk_some]) with h | h
            · rcases A6V.out g7 h with h | h
              · exact .inl (congrArg some h)
              · exact .inr (by omega)
            · exact .inr (by omega)
        have S7 : Hid (w7.heap[w.heap.size]? = wa.heap[w.heap.size]?) := by
          show _ = _
          rw [hgrow7.block _ (by omega) (fun e => by
            rcases A6V.out _ (mem_vblk.2 e.symm) with h | h <;> omega)]
          exact (K6.out _ (by omega) (by omega)).trans (BF.out.block _ HZ.out)
        clear hown7 hgrow7 hat7
        refine hK.out _ _ (HC.out w7 S7.out) (fun hHeld3 => ?_)
        clear hK K hHeld2
        try simp only [Act.put, List.getElem_toArray, List.getElem_cons_zero, List.getElem_cons_succ, List.setIfInBounds_toArray, List.set_cons_zero, List.set_cons_succ]
        refine wpAnyH_take (i := 8) (v := ?_) rfl (by kernel_rfl) (by kernel_rfl) (by kernel_rfl) (fun _ _ _ h => h) (Or.inl ⟨by rfl, ?_⟩) (by assumption) ?_
        rotate_left
        · (intro w hSw; (try dsimp only at hSw); go_simp; try with_reducible rfl)
        try simp only [Act.put, List.getElem_toArray, List.getElem_cons_zero, List.getElem_cons_succ, List.setIfInBounds_toArray, List.set_cons_zero, List.set_cons_succ]
        refine wpAnyH_done (by kernel_rfl) ?_ _
        clear hHeld3 HC
        go_wp2_with fail
        go_ret
        exact F7.out
end Go.Proofs.YtfeidjjabjejiaaGreatDoor

/- All that two join, by the reference: the steps of its loop. -/
namespace Go.Proofs.YtfeidjjabjejiaaGreatDoor
set_option linter.unusedSimpArgs false
set_option linter.unusedVariables false
set_option maxRecDepth 100000
open Go.RowKit

theorem sortU_snoc (l : List Rex) (x : Rex) : sortU (l ++ [x]) = put (sortU l) x := by simp [sortU]
theorem others_snoc (l : List Rex) (x : Rex) : bagOthers (l ++ [x]) = if x.kind = 1 then bagOthers l else bagOthers l ++ [x] := by
  by_cases h : x.kind = 1 <;> simp [bagOthers, isSet, h]
theorem bagSet_snoc (k : Int) (l : List Rex) (x : Rex) : bagSet k (l ++ [x]) = if x.kind = 1 then joinS k (bagSet k l) x else bagSet k l := by
  by_cases h : x.kind = 1 <;> simp [bagSet, isSet, h]
theorem takeSnoc {l : List Rex} {i : Nat} {x : Rex} (h : l[i]? = some x) : l.take (i + 1) = l.take i ++ [x] := by
  rw [List.take_add_one, h]; rfl
theorem put_len : ∀ (l : List Rex) (r : Rex), (put l r).length ≤ l.length + 1 ∧ l.length ≤ (put l r).length
  | [], r => by simp [put]
  | x :: l, r => by
    have := put_len l r
    rw [put]
    split
    · simp only [List.length_cons]; omega
    · split <;> simp
theorem putMem : ∀ (l : List Rex) (r x : Rex), x ∈ put l r → x = r ∨ x ∈ l
  | [], r, x, h => .inl (by simpa [put] using h)
  | y :: l, r, x, h => by
    rw [put] at h
    split at h
    · rcases List.mem_cons.1 h with h | h
      · exact .inr (by simp [h])
      · rcases putMem l r x h with h | h
        · exact .inl h
        · exact .inr (by simp [h])
    · split at h
      · exact .inr h
      · rcases List.mem_cons.1 h with h | h
        · exact .inl h
        · exact .inr h
theorem sortU_len (l : List Rex) : (sortU l).length ≤ l.length := by
  suffices h : ∀ (l acc : List Rex), (l.foldl put acc).length ≤ acc.length + l.length by simpa [sortU] using h l []
  intro l
  induction l with
  | nil => intro acc; simp
  | cons x l ih =>
    intro acc
    have h1 := ih (put acc x)
    have h2 := (put_len acc x).1
    simp only [List.foldl_cons, List.length_cons]
    omega
theorem sortU_mem (l : List Rex) (x : Rex) (h : x ∈ sortU l) : x ∈ l := by
  suffices g : ∀ (l acc : List Rex), x ∈ l.foldl put acc → x ∈ acc ∨ x ∈ l by
    rcases g l [] h with h | h
    · cases h
    · exact h
  intro l
  induction l with
  | nil => intro acc h; exact .inl h
  | cons y l ih =>
    intro acc h
    rcases ih (put acc y) h with h | h
    · rcases putMem acc y x h with h | h
      · exact .inr (by simp [h])
      · exact .inl h
    · exact .inr (by simp [h])
theorem sortU_zero (l : List Rex) : (sortU l).length = 0 ↔ l.length = 0 := by
  constructor
  · intro h
    rcases List.eq_nil_or_concat l with e | ⟨l', x, e⟩
    · rw [e]; rfl
    · rw [e, List.concat_eq_append, sortU_snoc] at h
      cases hs : sortU l' with
      | nil => rw [hs] at h; simp [put] at h
      | cons y ys =>
        have := (put_len (sortU l') x).2
        rw [hs] at this h
        rw [List.length_cons] at this
        omega
  · intro h
    have := sortU_len l
    omega
theorem others_mem {l : List Rex} {x : Rex} (h : x ∈ bagOthers l) : x ∈ l := (List.mem_filter.1 h).1
theorem others_len (l : List Rex) : (bagOthers l).length ≤ l.length := List.length_filter_le _ _
/-- what is given back at the end -/
theorem bag_end (k : Int) (l : List Rex) : sortU (bagItems k l) = match bagSet k l with
    | none => sortU (bagOthers l)
    | some s => if s ≠ [] ∨ k = 6 ∨ (bagOthers l).length = 0 then put (sortU (bagOthers l)) (.mk 1 s []) else sortU (bagOthers l) := by
  rw [bagItems]
  cases h : bagSet k l with
  | none => simp [bagLast]
  | some s =>
    simp only [bagLast]
    split
    · rw [sortU_snoc]
    · simp
end Go.Proofs.YtfeidjjabjejiaaGreatDoor

/- same, the two SetSame, the two MatchWord. -/
namespace Go.Proofs.YtfeidjjabjejiaaGreatDoor
set_option linter.unusedSimpArgs false
set_option linter.unusedVariables false
set_option maxRecDepth 100000
open Go.RowKit

theorem uSp : Tryz.prog.underlying TSp = some (.struct (Tryz.prog.fieldsOf TSp)) := by kernel_rfl
theorem sSp : Tryz.prog.stoodInHeld TSp = false := by kernel_rfl
theorem gSp : Tryz.prog.eqGuardType Tryz.prog.depth TSp = false := by kernel_rfl
theorem fSp : (Tryz.prog.fieldsOf TSp).toList.map (fun f => (f.name == "_", f.type, f.offset)) = [(false, 3, 0), (false, 3, 1)] := by kernel_rfl
theorem neqSp (x y : Sp) (w : World) : (binOp .neq TSp (.agg #[.int .i64 x.lo, .int .i64 x.hi]) (.agg #[.int .i64 y.lo, .int .i64 y.hi])).run Tryz.prog w = .ok (.bool (!decide (x = y))) w := by
  rw [run_neq_struct, run_equalIn_struct (P := Tryz.prog) w 9999 TSp _ _ uSp sSp]
  have hf := fSp
  generalize (Tryz.prog.fieldsOf TSp).toList = l at hf
  obtain ⟨f0, f1, rfl⟩ : ∃ f0 f1, l = [f0, f1] := by
    have := congrArg List.length hf
    rw [List.length_map] at this
    rcases l with _ | ⟨f0, _ | ⟨f1, _ | ⟨f2, l⟩⟩⟩ <;> simp at this
    exact ⟨f0, f1, rfl⟩
  · simp only [List.map_cons, List.map_nil, List.cons.injEq, Prod.mk.injEq, and_true] at hf
    obtain ⟨⟨n0, t0, o0⟩, n1, t1, o1⟩ := hf
    have n0' : ¬ f0.name = "_" := by simpa using n0
    have n1' : ¬ f1.name = "_" := by simpa using n1
    have p0 : ∀ a b : Int, (part 3 #[.int .i64 a, .int .i64 b] 0).run Tryz.prog w = .ok (.int .i64 a) w := by
      intro a b
      kernel_rfl
    have p1 : ∀ a b : Int, (part 3 #[.int .i64 a, .int .i64 b] 1).run Tryz.prog w = .ok (.int .i64 b) w := by
      intro a b
      kernel_rfl
    have q : ∀ a b : Int, (Op.equalIn 9999 3 (.int .i64 a) (.int .i64 b)).run Tryz.prog w = .ok (a == b) w := fun a b => run_equalIn_int w 9998 _ _ .i64 a b Tryz.underlying3
    simp only [Op.eqFields, ne_eq, n0', n1', not_false_eq_true, if_true, Sem.run_bind, t0, t1, o0, o1, p0, p1, q, Result.andThen_ok]
    by_cases c0 : x.lo = y.lo
    · by_cases c1 : x.hi = y.hi
      · have e : x = y := by cases x; cases y; simp at c0 c1; rw [c0, c1]
        subst e
        simp [p1, q]
      · have e : x ≠ y := by rintro rfl; exact c1 rfl
        simp [c0, c1, e, p1, q]
    · have e : x ≠ y := by rintro rfl; exact c0 rfl
      simp [c0, e]

set_option maxHeartbeats 1000000 in
theorem same_c (A B : Option Addr) (c d : Nat) (xs ys : List Sp) (w : World) {lo lo' : Nat} (h : Sps w lo A c xs) (h' : Sps w lo' B d ys) :
    Calls Tryz.prog 59 #[.slice A xs.length c, .slice B ys.length d] w fun e w' => e = .returned (.bool (decide (xs = ys))) ∧ Drawn w w' := by
  have hlen := h.len
  have hlen' := h'.len
  unfold maxN at hlen hlen'
  by_cases he : xs.length = ys.length
  · have b1 : ((xs.length : Int) != (ys.length : Int)) = false := by simp [he]
    have HE : Hid (xs.length = ys.length) := he
    clear he
    go_enter Tryz.func59, Tryz.ntmps59
    go_wp2
    go_loopg [13] (xs.length) (fun n i wr => ∃ k : Nat, k + n = xs.length ∧ i = .int .i64 k ∧ Hid (decide (xs.drop k = ys.drop k) = decide (xs = ys)) ∧ Drawn w wr)
    case atStart => exact ⟨0, by omega, rfl, by rw [List.drop_zero, List.drop_zero]; rfl, Drawn.refl _⟩
    case round =>
      obtain ⟨k, hk, rfl, HS, m, rfl⟩ := hrel
      by_cases hlt : k < xs.length
      · have hlt' : k < ys.length := by have := HE.out; omega
        obtain ⟨a, x, rfl, _, HD, h0, h1⟩ := h.at_ k hlt
        obtain ⟨a', y, rfl, _, HD', h0', h1'⟩ := h'.at_ k hlt'
        have ST : Hid _ := drop_eq_step HD.out HD'.out HS.out
        have N0 := fun wx => neqSp x y wx
        have N1 := gSp
        go_wp2
        go_quiet (fail)
        go_wp2
        · go_ret
          exact ⟨ret_bool (ST.out.1 (by simpa using ‹(!decide (x = y)) = true›)).symm, drewN_drewN _ _ _⟩
        · go_roundg (gk - 1)
          case rel => exact ⟨k + 1, by omega, by go_num, ST.out.2 (by simpa using ‹(!decide (x = y)) = false›), ⟨_, rfl⟩⟩
          case measure => omega
      · go_wp2
        go_ret
        exact ⟨ret_bool (by rw [← HS.out, List.drop_of_length_le (by omega), List.drop_of_length_le (by have := HE.out; omega)]; rfl), _, rfl⟩
  · have b1 : ((xs.length : Int) != (ys.length : Int)) = true := by simp; omega
    have b2 : (xs.length == ys.length) = false := by simp [he]
    have C : Hid (decide (xs = ys) = false) := decide_eq_false (by rintro rfl; exact he rfl)
    clear he
    go_enter Tryz.func59, Tryz.ntmps59
    go_wp2
    go_ret
    exact ⟨ret_bool C.out.symm, Drawn.refl _⟩

end Go.Proofs.YtfeidjjabjejiaaGreatDoor
