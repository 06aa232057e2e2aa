/- Copies of trees: what their statements leave. -/
import Derived.Test.YtiaccimbkghofaaCp
import Derived.Test.YtiaccimbkghofaaCs
import Derived.Test.YtiaccimbkghofaaBw
import Derived.Deep.RegionHeld3
import Derived.Deep.DeepCutAuto
namespace Go.Proofs.Ytiaccimbkghofaa
set_option linter.unusedSimpArgs false
set_option linter.unusedVariables false
open Go.RowKit

/-- a row of trees, as cells -/
structure KRow (w : World) (lo : Nat) (K : Option Addr) (ks : List Rex) (cs : List Value) : Prop where
  row : Row w lo K cs
  len : cs.length = ks.length * 3
  one : ∀ u ∈ cs, u.oneCell' = true
  each : ∀ (i : Nat) (r : Rex), ks[i]? = some r → ∃ v1 v2, cs[i * 3]? = some (.int .i64 r.kind) ∧ cs[i * 3 + 1]? = some v1 ∧ cs[i * 3 + 2]? = some v2 ∧ RexV w lo r (.int .i64 r.kind) v1 v2
theorem KCell.succ {w : World} {lo : Nat} {K : Option Addr} {i : Nat} {u0 u1 u2 : Value} (h : KCell w lo K i u0 u1 u2) : ∃ a, K = some a ∧ lo ≤ a.block ∧ w.cell? (a.add (i * 3)) = some u0 ∧ w.cell? (a.add (i * 3 + 1)) = some u1 ∧ w.cell? (a.add (i * 3 + 2)) = some u2 := by
  obtain ⟨a, e, hl, h0, h1, h2⟩ := h.ex
  exact ⟨a, e, hl, h0, by rw [add_field _ _ 1 (by omega)]; exact h1, by rw [add_field _ _ 2 (by omega)]; exact h2⟩
def threes (f : Nat → Value × Value × Value) : Nat → List Value
  | 0 => []
  | n + 1 => threes f n ++ [(f n).1, (f n).2.1, (f n).2.2]
theorem threes_length (f : Nat → Value × Value × Value) : ∀ n, (threes f n).length = n * 3
  | 0 => rfl
  | n + 1 => by rw [threes, List.length_append, threes_length f n]; simp; omega
theorem threes_get (f : Nat → Value × Value × Value) : ∀ n i, i < n → (threes f n)[i * 3]? = some (f i).1 ∧ (threes f n)[i * 3 + 1]? = some (f i).2.1 ∧ (threes f n)[i * 3 + 2]? = some (f i).2.2
  | 0, i, h => absurd h (Nat.not_lt_zero _)
  | n + 1, i, h => by
    have hl := threes_length f n
    rw [threes]
    by_cases e : i = n
    · subst e
      refine ⟨?_, ?_, ?_⟩
      · rw [List.getElem?_append_right (by omega), hl]; simp
      · rw [List.getElem?_append_right (by omega), hl, show i * 3 + 1 - i * 3 = 1 by omega]; simp
      · rw [List.getElem?_append_right (by omega), hl, show i * 3 + 2 - i * 3 = 2 by omega]; simp
    · have := threes_get f n i (by omega)
      rw [List.getElem?_append_left (by omega), List.getElem?_append_left (by omega), List.getElem?_append_left (by omega)]
      exact this
theorem threes_mem (f : Nat → Value × Value × Value) : ∀ n u, u ∈ threes f n → ∃ i, i < n ∧ (u = (f i).1 ∨ u = (f i).2.1 ∨ u = (f i).2.2)
  | 0, u, h => by simp [threes] at h
  | n + 1, u, h => by
    rw [threes, List.mem_append] at h
    rcases h with h | h
    · obtain ⟨i, hi, e⟩ := threes_mem f n u h
      exact ⟨i, by omega, e⟩
    · simp at h
      exact ⟨n, by omega, h⟩
theorem Kids.krow {w : World} {lo : Nat} {K : Option Addr} {ck : Nat} {ks : List Rex} (h : Kids w lo K ck ks) : ∃ cs, KRow w lo K ks cs := by
  obtain ⟨⟨V0, V1, V2, hc, hr⟩, _, _⟩ := h
  refine ⟨threes (fun i => (V0 i, V1 i, V2 i)) ks.length, ?_, threes_length _ _, fun u hu => ?_, fun i r hi => ?_⟩
  · by_cases h0 : ks.length = 0
    · rw [h0]; exact .inl rfl
    · obtain ⟨a, rfl, hl, _⟩ := (hc 0 (by omega)).succ
      refine .inr ⟨a, rfl, hl, fun j u hj => ?_⟩
      have hjl : j < ks.length * 3 := by rw [← threes_length (fun i => (V0 i, V1 i, V2 i)) ks.length]; exact (List.getElem?_eq_some_iff.1 hj).1
      obtain ⟨i, t, ht, rfl⟩ : ∃ i t, t < 3 ∧ j = i * 3 + t := ⟨j / 3, j % 3, Nat.mod_lt _ (by omega), by omega⟩
      have hi : i < ks.length := by omega
      obtain ⟨a', e, _, c0, c1, c2⟩ := (hc i hi).succ
      injection e with e
      subst e
      obtain ⟨g0, g1, g2⟩ := threes_get (fun i => (V0 i, V1 i, V2 i)) ks.length i hi
      match t, ht with
      | 0, _ => rw [Nat.add_zero] at hj ⊢; rw [g0] at hj; injection hj with hj; subst hj; exact c0
      | 1, _ => rw [g1] at hj; injection hj with hj; subst hj; exact c1
      | 2, _ => rw [g2] at hj; injection hj with hj; subst hj; exact c2
  · obtain ⟨i, hi, e⟩ := threes_mem _ _ _ hu
    have hv := (hr i (ks[i]) (List.getElem?_eq_getElem hi)).one
    rcases e with e | e | e
    · exact hv u (by simp [e])
    · exact hv u (by simp [e])
    · exact hv u (by simp [e])
  · have hi' := (List.getElem?_eq_some_iff.1 hi).1
    have hv := hr i r hi
    obtain ⟨_, _, _, _, e0, _⟩ := hv.parts
    obtain ⟨g0, g1, g2⟩ := threes_get (fun i => (V0 i, V1 i, V2 i)) ks.length i hi'
    dsimp only at g0 g1 g2
    rw [e0] at g0 hv
    exact ⟨V1 i, V2 i, g0, g1, g2, hv⟩

def CopyPost (k : Int) (s : List Sp) (ks : List Rex) (w : World) (e : Ending) (w' : World) : Prop := ∃ u1 u2 fp, e = .returned (.agg #[.int .i64 k, u1, u2]) ∧ OwnT w' fp (.mk k s ks) u1 u2 ∧ fp.Nodup ∧ (∀ b, b ∈ fp → w.heap.size ≤ b) ∧ Below w.heap.size w w'
def CopyOk (r : Rex) : Prop := ∀ (v1 v2 : Value) (w : World) (lo : Nat), RexV w lo r (.int .i64 r.kind) v1 v2 → r.size ≤ 1073741824 →
  Calls Try.prog 70 #[.agg #[.int .i64 r.kind, v1, v2]] w (CopyPost r.kind r.set r.kids w)

/-- what the first statement leaves -/
structure CopyMid (wb wx : World) (g : Nat) (k : Int) (s : List Sp) (n : Nat) (cs : List Value) (vS vK : Value) : Prop where
  blk : Blk wx g #[.int .i64 k, vS, vK] TRx
  set : OwnSp wx wb.heap.size vS s
  row : wx.ownsRow wb.heap.size TRx 3 vK n cs
  bel : Below wb.heap.size wb wx
  gS : g ∉ vblk vS
  gK : g ∉ vblk vK
  gl : wb.heap.size ≤ g
  dj : ∀ b, b ∈ vblk vS → b ∈ vblk vK → False
def CopyMidP (wb : World) (k : Int) (s : List Sp) (n : Nat) (cs : List Value) (v : Value) (wx : World) : Prop := ∃ g vS vK, v = .pointer (some ⟨g, 0, none⟩) ∧ CopyMid wb wx g k s n cs vS vK

abbrev Z0 : Obj := .cells #[.int .i64 0, nilS, nilS] TRx (0, 0)
theorem own_re {w : World} {base base' n size : Nat} {e : TypeId} {v : Value} {cs : List Value} (h : w.ownsRow base e size v n cs) (hb : ∀ b, b ∈ vblk v → base' ≤ b) : w.ownsRow base' e size v n cs := by
  obtain ⟨h1, h2⟩ := h
  refine ⟨h1, h2.imp id ?_⟩
  rintro ⟨g, cap, cur, rfl, hg, r⟩
  exact ⟨g, cap, cur, rfl, hb g (by simp [vblk_some]), r⟩
theorem own_vlt {w : World} {base n size : Nat} {e : TypeId} {v : Value} {cs : List Value} (h : w.ownsRow base e size v n cs) : ∀ b, b ∈ vblk v → base ≤ b ∧ b < w.heap.size := fun b hb => h.lt b (mem_vblk.1 hb)
theorem mid_of {wa wX : World} {g : Nat} {k : Int} {s : List Sp} {n : Nat} {cs : List Value} {vS vK : Value} {lS lK : Nat} (hl : s.length ≤ maxN) (hB : Blk wX g #[.int .i64 k, vS, vK] TRx) (hS : wX.ownsRow lS TSp 2 vS s.length (spcs s)) (hK : wX.ownsRow lK TRx 3 vK n cs)
    (hb : Below wa.heap.size wa wX) (gl : wa.heap.size ≤ g) (bS : ∀ b, b ∈ vblk vS → wa.heap.size ≤ b ∧ b ≠ g) (bK : ∀ b, b ∈ vblk vK → wa.heap.size ≤ b ∧ b ≠ g) (dj : ∀ b, b ∈ vblk vS → b ∈ vblk vK → False) : CopyMidP wa k s n cs (.pointer (some ⟨g, 0, none⟩)) wX :=
  ⟨g, vS, vK, rfl, hB, ⟨own_re hS fun b h => (bS b h).1, hl⟩, own_re hK fun b h => (bK b h).1, hb, fun h => (bS g h).2 rfl, fun h => (bK g h).2 rfl, gl, dj⟩
theorem mid1 {wa wA wB : World} {k : Int} {s : List Sp} {n : Nat} {cs : List Value} {vS vK : Value} (hl : s.length ≤ maxN) (OS : wA.ownsRow wa.drew.heap.size TSp 2 vS s.length (spcs s)) (BS : Below wa.drew.heap.size wa.drew wA) (OK : wB.ownsRow wA.heap.size TRx 3 vK n cs) (BK : Below wA.heap.size wA wB) :
    CopyMidP wa k s n cs (.pointer (some ⟨wB.heap.size, 0, none⟩)) (wB.alloc (.cells #[.int .i64 k, vS, vK] TRx (0, 0))) := by
  have s1 : wa.heap.size ≤ wA.heap.size := BS.size
  have s2 := BK.size
  have e1 := own_vlt OS
  have e2 := own_vlt OK
  have e3 : ∀ b, b ∈ vblk vS → wa.heap.size ≤ b := fun b h => (e1 b h).1
  refine mid_of hl (blk_new _ _ _) (own_below (own_below OS BK) (below_alloc (Below.refl _ _) _)) (own_below OK (below_alloc (Below.refl _ _) _)) (below_alloc (below_then (below_drew (Below.refl wa.heap.size wa)) (below_then BS BK)) _) (by omega) (fun b h => ?_) (fun b h => ?_) (fun b h h' => ?_)
  · have := e1 b h; have := e3 b h; omega
  · have := e2 b h; omega
  · have := e1 b h; have := e2 b h'; omega
theorem mid2 {wa wA wB : World} {k : Int} {s : List Sp} {n : Nat} {cs : List Value} {vS vK : Value} (hl : s.length ≤ maxN) (OS : wA.ownsRow wa.drew.heap.size TSp 2 vS s.length (spcs s)) (BS : Below wa.drew.heap.size wa.drew wA) (OK : wB.ownsRow (wA.alloc Z0).heap.size TRx 3 vK n cs) (BK : Below (wA.alloc Z0).heap.size (wA.alloc Z0) wB) :
    CopyMidP wa k s n cs (.pointer (some ⟨wA.heap.size, 0, none⟩)) (((wB.setCell ⟨wA.heap.size, 0, none⟩ (.int .i64 k)).setCell ⟨wA.heap.size, 1, none⟩ vS).setCell ⟨wA.heap.size, 2, none⟩ vK) := by
  have s1 : wa.heap.size ≤ wA.heap.size := BS.size
  have s2 := BK.size
  have s3 : (wA.alloc Z0).heap.size = wA.heap.size + 1 := by simp
  have e1 := own_vlt OS
  have e2 := own_vlt OK
  have e3 : ∀ b, b ∈ vblk vS → wa.heap.size ≤ b := fun b h => (e1 b h).1
  have hZ : Blk wB wA.heap.size #[.int .i64 0, nilS, nilS] TRx := (blk_new wA _ _).below BK
  have far : ∀ b, b ≠ wA.heap.size → (((wB.setCell ⟨wA.heap.size, 0, none⟩ (.int .i64 k)).setCell ⟨wA.heap.size, 1, none⟩ vS).setCell ⟨wA.heap.size, 2, none⟩ vK).heap[b]? = wB.heap[b]? := fun b hb =>
    (Below.heap_setCell _ _ _ _ hb).trans ((Below.heap_setCell _ _ _ _ hb).trans (Below.heap_setCell _ _ _ _ hb))
  have OS2 := own_below (own_below OS (below_alloc (Below.refl _ _) Z0)) BK
  refine mid_of hl (by simpa using ((hZ.set 0 (.int .i64 k)).set 1 vS).set 2 vK) (own_move OS2 fun b h => far b ?_) (own_move OK fun b h => far b ?_)
    (below_set (below_set (below_set (below_then (below_drew (Below.refl wa.heap.size wa)) (below_then BS (below_then (below_alloc (Below.refl _ _) _) BK))) s1 _) s1 _) s1 _) s1 (fun b h => ?_) (fun b h => ?_) (fun b h h' => ?_)
  · have := e1 b (mem_vblk.2 h); omega
  · have := e2 b (mem_vblk.2 h); omega
  · have := e1 b h; have := e3 b h; omega
  · have := e2 b h; omega
  · have := e1 b h; have := e2 b h'; omega
theorem mid3 {wa wA wB : World} {k : Int} {s : List Sp} {n : Nat} {cs : List Value} {vS vK : Value} (hl : s.length ≤ maxN) (OS : wA.ownsRow (wa.alloc Z0).drew.heap.size TSp 2 vS s.length (spcs s)) (BS : Below (wa.alloc Z0).drew.heap.size (wa.alloc Z0).drew wA) (OK : wB.ownsRow wA.heap.size TRx 3 vK n cs) (BK : Below wA.heap.size wA wB) :
    CopyMidP wa k s n cs (.pointer (some ⟨wa.heap.size, 0, none⟩)) (((wB.setCell ⟨wa.heap.size, 0, none⟩ (.int .i64 k)).setCell ⟨wa.heap.size, 1, none⟩ vS).setCell ⟨wa.heap.size, 2, none⟩ vK) := by
  have s0 : (wa.alloc Z0).drew.heap.size = wa.heap.size + 1 := by simp
  have s1 := BS.size
  have s2 := BK.size
  have e1 := own_vlt OS
  have e2 := own_vlt OK
  have hZ : Blk wB wa.heap.size #[.int .i64 0, nilS, nilS] TRx := ((show Blk (wa.alloc Z0).drew wa.heap.size #[.int .i64 0, nilS, nilS] TRx from ⟨(blk_new wa _ _).eq⟩).below BS).below BK
  have far : ∀ b, b ≠ wa.heap.size → (((wB.setCell ⟨wa.heap.size, 0, none⟩ (.int .i64 k)).setCell ⟨wa.heap.size, 1, none⟩ vS).setCell ⟨wa.heap.size, 2, none⟩ vK).heap[b]? = wB.heap[b]? := fun b hb =>
    (Below.heap_setCell _ _ _ _ hb).trans ((Below.heap_setCell _ _ _ _ hb).trans (Below.heap_setCell _ _ _ _ hb))
  refine mid_of hl (by simpa using ((hZ.set 0 (.int .i64 k)).set 1 vS).set 2 vK) (own_move (own_below OS BK) fun b h => far b ?_) (own_move OK fun b h => far b ?_)
    (below_set (below_set (below_set (below_then (below_drew (below_alloc (Below.refl wa.heap.size wa) Z0)) (below_then BS BK)) (Nat.le_refl _) _) (Nat.le_refl _) _) (Nat.le_refl _) _) (Nat.le_refl _) (fun b h => ?_) (fun b h => ?_) (fun b h h' => ?_)
  · have := e1 b (mem_vblk.2 h); omega
  · have := e2 b (mem_vblk.2 h); omega
  · have := e1 b h; omega
  · have := e2 b h; omega
  · have := e1 b h; have := e2 b h'; omega

theorem three_one (k : Int) (A K : Option Addr) (n m c d : Nat) : ∀ u ∈ [Value.int .i64 k, .slice A n c, .slice K m d], u.oneCell' = true := by
  intro u hu
  simp at hu
  rcases hu with rfl | rfl | rfl <;> rfl
theorem copy_fin {w wa wr w5 : World} {k : Int} {s : List Sp} {ks : List Rex} {vS vK : Value} {fk : List Nat} {L : List KInfo} (hz : w.heap.size + 1 < wa.heap.size) (HB : Below w.heap.size w wa) (HOS : OwnSp wr wa.heap.size vS s) (HOK : OwnK wr fk ks vK L) (HBE : Below wa.heap.size wa wr)
    (HFK : ∀ b, b ∈ fk → wa.heap.size ≤ b ∧ b ∉ vblk vS) (HG : wr.grownBy w5 (some (w.heap.size + 1))) : CopyPost k s ks w (.returned (.agg #[.int .i64 k, vS, vK])) w5 := by
  have hfr : ∀ b, b < wr.heap.size → b ≠ w.heap.size + 1 → w5.heap[b]? = wr.heap[b]? := fun b hb hne => HG.block b hb fun e => by injection e with e; exact hne e
  have nd : (vblk vS ++ fk).Nodup := by
    refine List.nodup_append.2 ⟨?_, HOK.nd, fun a ha b hb e => (HFK b hb).2 (e ▸ ha)⟩
    unfold vblk; split <;> simp
  have hlo : ∀ b, b ∈ vblk vS ++ fk → wa.heap.size ≤ b := fun b hb => by
    rcases List.mem_append.1 hb with hb | hb
    · exact (HOS.lt b hb).1
    · exact (HFK b hb).1
  refine ⟨vS, vK, vblk vS ++ fk, rfl, ?_, nd, fun b hb => by have := hlo b hb; omega, (below_then HB HBE).grown HG (Nat.le_trans HB.size HBE.size) (fun q hq => by injection hq with hq; omega)⟩
  refine (OwnT.of (k := k) (HOS.lower (Nat.zero_le _)) HOK nd).stay fun b hb => ?_
  have hT := (OwnT.of (k := k) (HOS.lower (Nat.zero_le _)) HOK nd).lt b hb
  exact hfr b hT (by have := hlo b hb; omega)

theorem splice_set (cur : Array Value) (j : Nat) (a b c : Value) (h : j * 3 + 3 ≤ cur.size) :
    ((cur.setIfInBounds (j * 3) a).setIfInBounds (j * 3 + 1) b).setIfInBounds (j * 3 + 2) c = (cur.toList.take (j * 3) ++ [a, b, c] ++ cur.toList.drop (j * 3 + 3)).toArray := by
  obtain ⟨l⟩ := cur
  simp only [List.setIfInBounds_toArray, List.size_toArray] at h ⊢
  congr 1
  apply List.ext_getElem?
  intro t
  have hl : (l.take (j * 3)).length = j * 3 := by rw [List.length_take]; omega
  rw [List.getElem?_set, List.getElem?_set, List.getElem?_set, List.append_assoc]
  simp only [List.length_set]
  by_cases h0 : t < j * 3
  · rw [if_neg (by omega), if_neg (by omega), if_neg (by omega), List.getElem?_append_left (by omega), List.getElem?_take, if_pos h0]
  · rw [List.getElem?_append_right (by omega), hl]
    by_cases h1 : t < j * 3 + 3
    · obtain ⟨d, rfl⟩ : ∃ d, t = j * 3 + d := ⟨t - j * 3, by omega⟩
      rw [show j * 3 + d - j * 3 = d by omega]
      match d, (show d < 3 by omega) with
      | 0, _ => rw [if_neg (by omega), if_neg (by omega), if_pos (by omega), if_pos (by omega)]; rfl
      | 1, _ => rw [if_neg (by omega), if_pos rfl, if_pos (by omega)]; rfl
      | 2, _ => rw [if_pos rfl, if_pos (by omega)]; rfl
    · rw [if_neg (by omega), if_neg (by omega), if_neg (by omega), List.getElem?_append_right (by simp; omega), List.getElem?_drop]
      congr 1
      simp
      omega
theorem splice_ge (l : List Value) (a b c : Value) (j t : Nat) (h : j * 3 + 3 ≤ l.length) (ht : (j + 1) * 3 ≤ t) : (l.take (j * 3) ++ [a, b, c] ++ l.drop (j * 3 + 3)).toArray[t]? = l[t]? := by
  have hl : (l.take (j * 3) ++ [a, b, c]).length = j * 3 + 3 := by simp only [List.length_append, List.length_take, List.length_cons, List.length_nil]; omega
  rw [List.getElem?_toArray, List.getElem?_append_right (by omega), hl, List.getElem?_drop]
  congr 1
  omega
theorem copy_round {wr wD : World} {gK lo cap j n : Nat} {cur : Array Value} {ks : List Rex} {L : List KInfo} {r : Rex} {fp : List Nat} {v1 v2 : Value} {cs : List Value} (HX : KPart wr gK lo cap cur ks j L) (HR : ks[j]? = some r) (b2 : Below wr.heap.size wr wD) (HO : OwnT wD fp r v1 v2) (HF : ∀ b, b ∈ fp → wr.heap.size ≤ b) (HN : fp.Nodup)
    (hlo : lo ≤ wr.heap.size) (HT : ∀ t, j * 3 ≤ t → t < ks.length * 3 → cur[t]? = cs[t]?) :
    ∃ cur', KPart (((wD.setCell ⟨gK, j * 3, none⟩ (.int .i64 r.kind)).setCell ⟨gK, j * 3 + 1, none⟩ v1).setCell ⟨gK, j * 3 + 2, none⟩ v2) gK lo cap cur' ks (j + 1) (L ++ [⟨fp, v1, v2⟩]) ∧ ∀ t, (j + 1) * 3 ≤ t → t < ks.length * 3 → cur'[t]? = cs[t]? := by
  have hj := (List.getElem?_eq_some_iff.1 HR).1
  have hsz := HX.size
  have hcn := HX.capn
  have hX5 : Blk (((wD.setCell ⟨gK, j * 3, none⟩ (.int .i64 r.kind)).setCell ⟨gK, j * 3 + 1, none⟩ v1).setCell ⟨gK, j * 3 + 2, none⟩ v2) gK (cur.toList.take (j * 3) ++ [.int .i64 r.kind, v1, v2] ++ cur.toList.drop (j * 3 + 3)).toArray TRx := by
    rw [← splice_set cur j _ _ _ (by omega)]
    exact (((HX.blk.below b2).set _ _).set _ _).set _ _
  refine ⟨_, HX.snoc HR b2 HO HF HN hX5 (grown_set (grown_set (grown_set (grown_refl _ _) _ _) _ _) _ _) hlo, fun t h1 h2 => ?_⟩
  rw [splice_ge _ _ _ _ _ _ (by rw [Array.length_toList]; omega) h1, Array.getElem?_toList]
  exact HT t (by omega) h2

end Go.Proofs.Ytiaccimbkghofaa
