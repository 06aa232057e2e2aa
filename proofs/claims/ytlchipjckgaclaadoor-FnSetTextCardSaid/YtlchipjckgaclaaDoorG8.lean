/- Texts joined for the claims: C0 C2 Tt. -/
import Derived.Test.YtlchipjckgaclaaDoorG7
import Derived.Test.YtlchipjckgaclaaDoorG1
import Derived.Deep.RegionHeld3
import Derived.Deep.DeepCutAuto
import Derived.Test.YtlchipjckgaclaaDoorG6
/- Copies of trees: what their statements leave. -/
namespace Go.Proofs.YtlchipjckgaclaaDoor
set_option linter.unusedSimpArgs false
set_option linter.unusedVariables false
set_option maxRecDepth 100000
open Go.RowKit

/-- a row of trees, as cells -/
structure KRow (w : World) (lo : Nat) (K : Option Addr) (ks : List Rex) (cs : List Value) : Prop where
  row : Row w lo K cs
  len : cs.length = ks.length * 3
  one : ∀ u ∈ cs, u.oneCell' = true
  each : ∀ (i : Nat) (r : Rex), ks[i]? = some r → ∃ v1 v2, cs[i * 3]? = some (.int .i64 r.kind) ∧ cs[i * 3 + 1]? = some v1 ∧ cs[i * 3 + 2]? = some v2 ∧ RexV w lo r (.int .i64 r.kind) v1 v2
theorem KCell.succ {w : World} {lo : Nat} {K : Option Addr} {i : Nat} {u0 u1 u2 : Value} (h : KCell w lo K i u0 u1 u2) : ∃ a, K = some a ∧ lo ≤ a.block ∧ w.cell? (a.add (i * 3)) = some u0 ∧ w.cell? (a.add (i * 3 + 1)) = some u1 ∧ w.cell? (a.add (i * 3 + 2)) = some u2 := by
  obtain ⟨a, e, hl, h0, h1, h2⟩ := h.ex
  exact ⟨a, e, hl, h0, by rw [add_field _ _ 1 (by omega)]; exact h1, by rw [add_field _ _ 2 (by omega)]; exact h2⟩
def threes (f : Nat → Value × Value × Value) : Nat → List Value
  | 0 => []
  | n + 1 => threes f n ++ [(f n).1, (f n).2.1, (f n).2.2]
theorem threes_length (f : Nat → Value × Value × Value) : ∀ n, (threes f n).length = n * 3
  | 0 => rfl
  | n + 1 => by rw [threes, List.length_append, threes_length f n]; simp; omega
theorem threes_get (f : Nat → Value × Value × Value) : ∀ n i, i < n → (threes f n)[i * 3]? = some (f i).1 ∧ (threes f n)[i * 3 + 1]? = some (f i).2.1 ∧ (threes f n)[i * 3 + 2]? = some (f i).2.2
  | 0, i, h => absurd h (Nat.not_lt_zero _)
  | n + 1, i, h => by
    have hl := threes_length f n
    rw [threes]
    by_cases e : i = n
    · subst e
      refine ⟨?_, ?_, ?_⟩
      · rw [List.getElem?_append_right (by omega), hl]; simp
      · rw [List.getElem?_append_right (by omega), hl, show i * 3 + 1 - i * 3 = 1 by omega]; simp
      · rw [List.getElem?_append_right (by omega), hl, show i * 3 + 2 - i * 3 = 2 by omega]; simp
    · have := threes_get f n i (by omega)
      rw [List.getElem?_append_left (by omega), List.getElem?_append_left (by omega), List.getElem?_append_left (by omega)]
      exact this
theorem threes_mem (f : Nat → Value × Value × Value) : ∀ n u, u ∈ threes f n → ∃ i, i < n ∧ (u = (f i).1 ∨ u = (f i).2.1 ∨ u = (f i).2.2)
  | 0, u, h => by simp [threes] at h
  | n + 1, u, h => by
    rw [threes, List.mem_append] at h
    rcases h with h | h
    · obtain ⟨i, hi, e⟩ := threes_mem f n u h
      exact ⟨i, by omega, e⟩
    · simp at h
      exact ⟨n, by omega, h⟩
theorem Kids.krow {w : World} {lo : Nat} {K : Option Addr} {ck : Nat} {ks : List Rex} (h : Kids w lo K ck ks) : ∃ cs, KRow w lo K ks cs := by
  obtain ⟨⟨V0, V1, V2, hc, hr⟩, _, _⟩ := h
  refine ⟨threes (fun i => (V0 i, V1 i, V2 i)) ks.length, ?_, threes_length _ _, fun u hu => ?_, fun i r hi => ?_⟩
  · by_cases h0 : ks.length = 0
    · rw [h0]; exact .inl rfl
    · obtain ⟨a, rfl, hl, _⟩ := (hc 0 (by omega)).succ
      refine .inr ⟨a, rfl, hl, fun j u hj => ?_⟩
      have hjl : j < ks.length * 3 := by rw [← threes_length (fun i => (V0 i, V1 i, V2 i)) ks.length]; exact (List.getElem?_eq_some_iff.1 hj).1
      obtain ⟨i, t, ht, rfl⟩ : ∃ i t, t < 3 ∧ j = i * 3 + t := ⟨j / 3, j % 3, Nat.mod_lt _ (by omega), by omega⟩
      have hi : i < ks.length := by omega
      obtain ⟨a', e, _, c0, c1, c2⟩ := (hc i hi).succ
      injection e with e
      subst e
      obtain ⟨g0, g1, g2⟩ := threes_get (fun i => (V0 i, V1 i, V2 i)) ks.length i hi
      match t, ht with
      | 0, _ => rw [Nat.add_zero] at hj ⊢; rw [g0] at hj; injection hj with hj; subst hj; exact c0
      | 1, _ => rw [g1] at hj; injection hj with hj; subst hj; exact c1
      | 2, _ => rw [g2] at hj; injection hj with hj; subst hj; exact c2
  · obtain ⟨i, hi, e⟩ := threes_mem _ _ _ hu
    have hv := (hr i (ks[i]) (List.getElem?_eq_getElem hi)).one
    rcases e with e | e | e
    · exact hv u (by simp [e])
    · exact hv u (by simp [e])
    · exact hv u (by simp [e])
  · have hi' := (List.getElem?_eq_some_iff.1 hi).1
    have hv := hr i r hi
    obtain ⟨_, _, _, _, e0, _⟩ := hv.parts
    obtain ⟨g0, g1, g2⟩ := threes_get (fun i => (V0 i, V1 i, V2 i)) ks.length i hi'
    dsimp only at g0 g1 g2
    rw [e0] at g0 hv
    exact ⟨V1 i, V2 i, g0, g1, g2, hv⟩

def CopyPost (k : Int) (s : List Sp) (ks : List Rex) (w : World) (e : Ending) (w' : World) : Prop := ∃ u1 u2 fp, e = .returned (.agg #[.int .i64 k, u1, u2]) ∧ OwnT w' fp (.mk k s ks) u1 u2 ∧ fp.Nodup ∧ (∀ b, b ∈ fp → w.heap.size ≤ b) ∧ Below w.heap.size w w'
def CopyOk (r : Rex) : Prop := ∀ (v1 v2 : Value) (w : World) (lo : Nat), RexV w lo r (.int .i64 r.kind) v1 v2 → r.size ≤ 1073741824 →
  Calls Tryd.prog 74 #[.agg #[.int .i64 r.kind, v1, v2]] w (CopyPost r.kind r.set r.kids w)

/-- what the first statement leaves -/
structure CopyMid (wb wx : World) (g : Nat) (k : Int) (s : List Sp) (n : Nat) (cs : List Value) (vS vK : Value) : Prop where
  blk : Blk wx g #[.int .i64 k, vS, vK] TRx
  set : OwnSp wx wb.heap.size vS s
  row : wx.ownsRow wb.heap.size TRx 3 vK n cs
  bel : Below wb.heap.size wb wx
  gS : g ∉ vblk vS
  gK : g ∉ vblk vK
  gl : wb.heap.size ≤ g
  dj : ∀ b, b ∈ vblk vS → b ∈ vblk vK → False
def CopyMidP (wb : World) (k : Int) (s : List Sp) (n : Nat) (cs : List Value) (v : Value) (wx : World) : Prop := ∃ g vS vK, v = .pointer (some ⟨g, 0, none⟩) ∧ CopyMid wb wx g k s n cs vS vK

abbrev Z0 : Obj := .cells #[.int .i64 0, nilS, nilS] TRx (0, 0)
theorem own_re {w : World} {base base' n size : Nat} {e : TypeId} {v : Value} {cs : List Value} (h : w.ownsRow base e size v n cs) (hb : ∀ b, b ∈ vblk v → base' ≤ b) : w.ownsRow base' e size v n cs := by
  obtain ⟨h1, h2⟩ := h
  refine ⟨h1, h2.imp id ?_⟩
  rintro ⟨g, cap, cur, rfl, hg, r⟩
  exact ⟨g, cap, cur, rfl, hb g (by simp [vblk_some]), r⟩
theorem own_vlt {w : World} {base n size : Nat} {e : TypeId} {v : Value} {cs : List Value} (h : w.ownsRow base e size v n cs) : ∀ b, b ∈ vblk v → base ≤ b ∧ b < w.heap.size := fun b hb => h.lt b (mem_vblk.1 hb)
theorem mid_of {wa wX : World} {g : Nat} {k : Int} {s : List Sp} {n : Nat} {cs : List Value} {vS vK : Value} {lS lK : Nat} (hl : s.length ≤ maxN) (hB : Blk wX g #[.int .i64 k, vS, vK] TRx) (hS : wX.ownsRow lS TSp 2 vS s.length (spcs s)) (hK : wX.ownsRow lK TRx 3 vK n cs)
    (hb : Below wa.heap.size wa wX) (gl : wa.heap.size ≤ g) (bS : ∀ b, b ∈ vblk vS → wa.heap.size ≤ b ∧ b ≠ g) (bK : ∀ b, b ∈ vblk vK → wa.heap.size ≤ b ∧ b ≠ g) (dj : ∀ b, b ∈ vblk vS → b ∈ vblk vK → False) : CopyMidP wa k s n cs (.pointer (some ⟨g, 0, none⟩)) wX :=
  ⟨g, vS, vK, rfl, hB, ⟨own_re hS fun b h => (bS b h).1, hl⟩, own_re hK fun b h => (bK b h).1, hb, fun h => (bS g h).2 rfl, fun h => (bK g h).2 rfl, gl, dj⟩
theorem mid1 {wa wA wB : World} {k : Int} {s : List Sp} {n : Nat} {cs : List Value} {vS vK : Value} (hl : s.length ≤ maxN) (OS : wA.ownsRow wa.drew.heap.size TSp 2 vS s.length (spcs s)) (BS : Below wa.drew.heap.size wa.drew wA) (OK : wB.ownsRow wA.heap.size TRx 3 vK n cs) (BK : Below wA.heap.size wA wB) :
    CopyMidP wa k s n cs (.pointer (some ⟨wB.heap.size, 0, none⟩)) (wB.alloc (.cells #[.int .i64 k, vS, vK] TRx (0, 0))) := by
  have s1 : wa.heap.size ≤ wA.heap.size := BS.size
  have s2 := BK.size
  have e1 := own_vlt OS
  have e2 := own_vlt OK
  have e3 : ∀ b, b ∈ vblk vS → wa.heap.size ≤ b := fun b h => (e1 b h).1
  refine mid_of hl (blk_new _ _ _) (own_below (own_below OS BK) (below_alloc (Below.refl _ _) _)) (own_below OK (below_alloc (Below.refl _ _) _)) (below_alloc (below_then (below_drew (Below.refl wa.heap.size wa)) (below_then BS BK)) _) (by omega) (fun b h => ?_) (fun b h => ?_) (fun b h h' => ?_)
  · have := e1 b h; have := e3 b h; omega
  · have := e2 b h; omega
  · have := e1 b h; have := e2 b h'; omega
theorem mid2 {wa wA wB : World} {k : Int} {s : List Sp} {n : Nat} {cs : List Value} {vS vK : Value} (hl : s.length ≤ maxN) (OS : wA.ownsRow wa.drew.heap.size TSp 2 vS s.length (spcs s)) (BS : Below wa.drew.heap.size wa.drew wA) (OK : wB.ownsRow (wA.alloc Z0).heap.size TRx 3 vK n cs) (BK : Below (wA.alloc Z0).heap.size (wA.alloc Z0) wB) :
    CopyMidP wa k s n cs (.pointer (some ⟨wA.heap.size, 0, none⟩)) (((wB.setCell ⟨wA.heap.size, 0, none⟩ (.int .i64 k)).setCell ⟨wA.heap.size, 1, none⟩ vS).setCell ⟨wA.heap.size, 2, none⟩ vK) := by
  have s1 : wa.heap.size ≤ wA.heap.size := BS.size
  have s2 := BK.size
  have s3 : (wA.alloc Z0).heap.size = wA.heap.size + 1 := by simp
  have e1 := own_vlt OS
  have e2 := own_vlt OK
  have e3 : ∀ b, b ∈ vblk vS → wa.heap.size ≤ b := fun b h => (e1 b h).1
  have hZ : Blk wB wA.heap.size #[.int .i64 0, nilS, nilS] TRx := (blk_new wA _ _).below BK
  have far : ∀ b, b ≠ wA.heap.size → (((wB.setCell ⟨wA.heap.size, 0, none⟩ (.int .i64 k)).setCell ⟨wA.heap.size, 1, none⟩ vS).setCell ⟨wA.heap.size, 2, none⟩ vK).heap[b]? = wB.heap[b]? := fun b hb =>
    (Below.heap_setCell _ _ _ _ hb).trans ((Below.heap_setCell _ _ _ _ hb).trans (Below.heap_setCell _ _ _ _ hb))
  have OS2 := own_below (own_below OS (below_alloc (Below.refl _ _) Z0)) BK
  refine mid_of hl (by simpa using ((hZ.set 0 (.int .i64 k)).set 1 vS).set 2 vK) (own_move OS2 fun b h => far b ?_) (own_move OK fun b h => far b ?_)
    (below_set (below_set (below_set (below_then (below_drew (Below.refl wa.heap.size wa)) (below_then BS (below_then (below_alloc (Below.refl _ _) _) BK))) s1 _) s1 _) s1 _) s1 (fun b h => ?_) (fun b h => ?_) (fun b h h' => ?_)
  · have := e1 b (mem_vblk.2 h); omega
  · have := e2 b (mem_vblk.2 h); omega
  · have := e1 b h; have := e3 b h; omega
  · have := e2 b h; omega
  · have := e1 b h; have := e2 b h'; omega
theorem mid3 {wa wA wB : World} {k : Int} {s : List Sp} {n : Nat} {cs : List Value} {vS vK : Value} (hl : s.length ≤ maxN) (OS : wA.ownsRow (wa.alloc Z0).drew.heap.size TSp 2 vS s.length (spcs s)) (BS : Below (wa.alloc Z0).drew.heap.size (wa.alloc Z0).drew wA) (OK : wB.ownsRow wA.heap.size TRx 3 vK n cs) (BK : Below wA.heap.size wA wB) :
    CopyMidP wa k s n cs (.pointer (some ⟨wa.heap.size, 0, none⟩)) (((wB.setCell ⟨wa.heap.size, 0, none⟩ (.int .i64 k)).setCell ⟨wa.heap.size, 1, none⟩ vS).setCell ⟨wa.heap.size, 2, none⟩ vK) := by
  have s0 : (wa.alloc Z0).drew.heap.size = wa.heap.size + 1 := by simp
  have s1 := BS.size
  have s2 := BK.size
  have e1 := own_vlt OS
  have e2 := own_vlt OK
  have hZ : Blk wB wa.heap.size #[.int .i64 0, nilS, nilS] TRx := ((show Blk (wa.alloc Z0).drew wa.heap.size #[.int .i64 0, nilS, nilS] TRx from ⟨(blk_new wa _ _).eq⟩).below BS).below BK
  have far : ∀ b, b ≠ wa.heap.size → (((wB.setCell ⟨wa.heap.size, 0, none⟩ (.int .i64 k)).setCell ⟨wa.heap.size, 1, none⟩ vS).setCell ⟨wa.heap.size, 2, none⟩ vK).heap[b]? = wB.heap[b]? := fun b hb =>
    (Below.heap_setCell _ _ _ _ hb).trans ((Below.heap_setCell _ _ _ _ hb).trans (Below.heap_setCell _ _ _ _ hb))
  refine mid_of hl (by simpa using ((hZ.set 0 (.int .i64 k)).set 1 vS).set 2 vK) (own_move (own_below OS BK) fun b h => far b ?_) (own_move OK fun b h => far b ?_)
    (below_set (below_set (below_set (below_then (below_drew (below_alloc (Below.refl wa.heap.size wa) Z0)) (below_then BS BK)) (Nat.le_refl _) _) (Nat.le_refl _) _) (Nat.le_refl _) _) (Nat.le_refl _) (fun b h => ?_) (fun b h => ?_) (fun b h h' => ?_)
  · have := e1 b (mem_vblk.2 h); omega
  · have := e2 b (mem_vblk.2 h); omega
  · have := e1 b h; omega
  · have := e2 b h; omega
  · have := e1 b h; have := e2 b h'; omega

theorem three_one (k : Int) (A K : Option Addr) (n m c d : Nat) : ∀ u ∈ [Value.int .i64 k, .slice A n c, .slice K m d], u.oneCell' = true := by
  intro u hu
  simp at hu
  rcases hu with rfl | rfl | rfl <;> rfl
theorem copy_fin {w wa wr w5 : World} {k : Int} {s : List Sp} {ks : List Rex} {vS vK : Value} {fk : List Nat} {L : List KInfo} (hz : w.heap.size + 1 < wa.heap.size) (HB : Below w.heap.size w wa) (HOS : OwnSp wr wa.heap.size vS s) (HOK : OwnK wr fk ks vK L) (HBE : Below wa.heap.size wa wr)
    (HFK : ∀ b, b ∈ fk → wa.heap.size ≤ b ∧ b ∉ vblk vS) (HG : wr.grownBy w5 (some (w.heap.size + 1))) : CopyPost k s ks w (.returned (.agg #[.int .i64 k, vS, vK])) w5 := by
  have hfr : ∀ b, b < wr.heap.size → b ≠ w.heap.size + 1 → w5.heap[b]? = wr.heap[b]? := fun b hb hne => HG.block b hb fun e => by injection e with e; exact hne e
  have nd : (vblk vS ++ fk).Nodup := by
    refine List.nodup_append.2 ⟨?_, HOK.nd, fun a ha b hb e => (HFK b hb).2 (e ▸ ha)⟩
    unfold vblk; split <;> simp
  have hlo : ∀ b, b ∈ vblk vS ++ fk → wa.heap.size ≤ b := fun b hb => by
    rcases List.mem_append.1 hb with hb | hb
    · exact (HOS.lt b hb).1
    · exact (HFK b hb).1
  refine ⟨vS, vK, vblk vS ++ fk, rfl, ?_, nd, fun b hb => by have := hlo b hb; omega, (below_then HB HBE).grown HG (Nat.le_trans HB.size HBE.size) (fun q hq => by injection hq with hq; omega)⟩
  refine (OwnT.of (k := k) (HOS.lower (Nat.zero_le _)) HOK nd).stay fun b hb => ?_
  have hT := (OwnT.of (k := k) (HOS.lower (Nat.zero_le _)) HOK nd).lt b hb
  exact hfr b hT (by have := hlo b hb; omega)

theorem splice_set (cur : Array Value) (j : Nat) (a b c : Value) (h : j * 3 + 3 ≤ cur.size) :
    ((cur.setIfInBounds (j * 3) a).setIfInBounds (j * 3 + 1) b).setIfInBounds (j * 3 + 2) c = (cur.toList.take (j * 3) ++ [a, b, c] ++ cur.toList.drop (j * 3 + 3)).toArray := by
  obtain ⟨l⟩ := cur
  simp only [List.setIfInBounds_toArray, List.size_toArray] at h ⊢
  congr 1
  apply List.ext_getElem?
  intro t
  have hl : (l.take (j * 3)).length = j * 3 := by rw [List.length_take]; omega
  rw [List.getElem?_set, List.getElem?_set, List.getElem?_set, List.append_assoc]
  simp only [List.length_set]
  by_cases h0 : t < j * 3
  · rw [if_neg (by omega), if_neg (by omega), if_neg (by omega), List.getElem?_append_left (by omega), List.getElem?_take, if_pos h0]
  · rw [List.getElem?_append_right (by omega), hl]
    by_cases h1 : t < j * 3 + 3
    · obtain ⟨d, rfl⟩ : ∃ d, t = j * 3 + d := ⟨t - j * 3, by omega⟩
      rw [show j * 3 + d - j * 3 = d by omega]
      match d, (show d < 3 by omega) with
      | 0, _ => rw [if_neg (by omega), if_neg (by omega), if_pos (by omega), if_pos (by omega)]; rfl
      | 1, _ => rw [if_neg (by omega), if_pos rfl, if_pos (by omega)]; rfl
      | 2, _ => rw [if_pos rfl, if_pos (by omega)]; rfl
    · rw [if_neg (by omega), if_neg (by omega), if_neg (by omega), List.getElem?_append_right (by simp; omega), List.getElem?_drop]
      congr 1
      simp
      omega
theorem splice_ge (l : List Value) (a b c : Value) (j t : Nat) (h : j * 3 + 3 ≤ l.length) (ht : (j + 1) * 3 ≤ t) : (l.take (j * 3) ++ [a, b, c] ++ l.drop (j * 3 + 3)).toArray[t]? = l[t]? := by
  have hl : (l.take (j * 3) ++ [a, b, c]).length = j * 3 + 3 := by simp only [List.length_append, List.length_take, List.length_cons, List.length_nil]; omega
  rw [List.getElem?_toArray, List.getElem?_append_right (by omega), hl, List.getElem?_drop]
  congr 1
  omega
theorem copy_round {wr wD : World} {gK lo cap j n : Nat} {cur : Array Value} {ks : List Rex} {L : List KInfo} {r : Rex} {fp : List Nat} {v1 v2 : Value} {cs : List Value} (HX : KPart wr gK lo cap cur ks j L) (HR : ks[j]? = some r) (b2 : Below wr.heap.size wr wD) (HO : OwnT wD fp r v1 v2) (HF : ∀ b, b ∈ fp → wr.heap.size ≤ b) (HN : fp.Nodup)
    (hlo : lo ≤ wr.heap.size) (HT : ∀ t, j * 3 ≤ t → t < ks.length * 3 → cur[t]? = cs[t]?) :
    ∃ cur', KPart (((wD.setCell ⟨gK, j * 3, none⟩ (.int .i64 r.kind)).setCell ⟨gK, j * 3 + 1, none⟩ v1).setCell ⟨gK, j * 3 + 2, none⟩ v2) gK lo cap cur' ks (j + 1) (L ++ [⟨fp, v1, v2⟩]) ∧ ∀ t, (j + 1) * 3 ≤ t → t < ks.length * 3 → cur'[t]? = cs[t]? := by
  have hj := (List.getElem?_eq_some_iff.1 HR).1
  have hsz := HX.size
  have hcn := HX.capn
  have hX5 : Blk (((wD.setCell ⟨gK, j * 3, none⟩ (.int .i64 r.kind)).setCell ⟨gK, j * 3 + 1, none⟩ v1).setCell ⟨gK, j * 3 + 2, none⟩ v2) gK (cur.toList.take (j * 3) ++ [.int .i64 r.kind, v1, v2] ++ cur.toList.drop (j * 3 + 3)).toArray TRx := by
    rw [← splice_set cur j _ _ _ (by omega)]
    exact (((HX.blk.below b2).set _ _).set _ _).set _ _
  refine ⟨_, HX.snoc HR b2 HO HF HN hX5 (grown_set (grown_set (grown_set (grown_refl _ _) _ _) _ _) _ _) hlo, fun t h1 h2 => ?_⟩
  rw [splice_ge _ _ _ _ _ _ (by rw [Array.length_toList]; omega) h1, Array.getElem?_toList]
  exact HT t (by omega) h2

end Go.Proofs.YtlchipjckgaclaaDoor

/- l2Copy: a tree in new memory, by the reference. -/
namespace Go.Proofs.YtlchipjckgaclaaDoor
set_option linter.unusedSimpArgs false
set_option linter.unusedVariables false
set_option maxRecDepth 100000
open Go.RowKit

abbrev E0 : Obj := .cells #[] TSp (0, 0)
theorem own_e (w : World) {lo : Nat} (h : lo ≤ w.heap.size) : (w.alloc E0).ownsRow lo TSp 2 (.slice (some ⟨w.heap.size, 0, none⟩) 0 0) 0 [] :=
  ⟨rfl, .inr ⟨w.heap.size, 0, #[], rfl, h, heap_alloc_new w _, Nat.le_refl _, by unfold maxLen; omega, rfl, rfl⟩⟩
theorem vblk_of_some' {g n c : Nat} : vblk (.slice (some ⟨g, 0, none⟩) n c) = [g] := rfl
theorem hv2 {vS : Value} {n H g : Nat} (hat : ∀ b, b ∈ vblk vS → b ∈ vblk (.slice (some ⟨n, 0, none⟩) 0 0) ∨ b = H) (h1 : g ≠ n) (h2 : g ≠ H) : g ∉ vblk vS := fun h => by
  rcases hat g h with e | e
  · rw [vblk_of_some'] at e; simp at e; exact h1 e
  · exact h2 e
/-- what the first statement leaves -/
structure LitMid (wb wx : World) (g : Nat) (k : Int) (s : List Sp) (vS : Value) : Prop where
  blk : Blk wx g #[.int .i64 k, vS, nilS] TRx
  set : OwnSp wx wb.heap.size vS s
  bel : Below wb.heap.size wb wx
  gS : g ∉ vblk vS
  gl : wb.heap.size ≤ g
def LitMidP (wb : World) (k : Int) (s : List Sp) (v : Value) (wx : World) : Prop := ∃ g vS, v = .pointer (some ⟨g, 0, none⟩) ∧ LitMid wb wx g k s vS

theorem lit1 {wa wB : World} {k : Int} {s : List Sp} {vS : Value} (hl : s.length ≤ maxN) (OS : wB.ownsRow wa.heap.size TSp 2 vS s.length (spcs s)) (BS : Below wa.heap.size wa wB) :
    LitMidP wa k s (.pointer (some ⟨wB.heap.size, 0, none⟩)) (wB.alloc (.cells #[.int .i64 k, vS, nilS] TRx (0, 0))) := by
  have e1 := own_vlt OS
  refine ⟨_, vS, rfl, blk_new _ _ _, ⟨own_below OS (below_alloc (Below.refl _ _) _), hl⟩, below_alloc BS _, fun h => ?_, BS.size⟩
  have := e1 _ h; omega
theorem lit2 {wa wB : World} {k : Int} {s : List Sp} {vS : Value} {g : Nat} (hl : s.length ≤ maxN) (OS : wB.ownsRow wa.heap.size TSp 2 vS s.length (spcs s)) (BS : Below wa.heap.size wa wB) (hZ : Blk wB g #[.int .i64 0, nilS, nilS] TRx) (hg : wa.heap.size ≤ g) (hv : g ∉ vblk vS) :
    LitMidP wa k s (.pointer (some ⟨g, 0, none⟩)) (((wB.setCell ⟨g, 0, none⟩ (.int .i64 k)).setCell ⟨g, 1, none⟩ vS).setCell ⟨g, 2, none⟩ nilS) := by
  have far : ∀ b, b ≠ g → (((wB.setCell ⟨g, 0, none⟩ (.int .i64 k)).setCell ⟨g, 1, none⟩ vS).setCell ⟨g, 2, none⟩ nilS).heap[b]? = wB.heap[b]? := fun b hb =>
    (Below.heap_setCell _ _ _ _ hb).trans ((Below.heap_setCell _ _ _ _ hb).trans (Below.heap_setCell _ _ _ _ hb))
  exact ⟨g, vS, rfl, by simpa using ((hZ.set 0 (.int .i64 k)).set 1 vS).set 2 nilS, ⟨own_move OS fun b h => far b (fun e => hv (e ▸ mem_vblk.2 h)), hl⟩, below_set (below_set (below_set BS hg _) hg _) hg _, hv, hg⟩

/-- a row of trees that grows -/
structure KApp (w : World) (lo : Nat) (ks : List Rex) (j : Nat) (v : Value) (L : List KInfo) : Prop where
  own : w.ownsRow lo TRx 3 v j (kcells (ks.take j) L)
  len : L.length = j
  le : j ≤ ks.length
  hr : ∀ (i : Nat) (r : Rex) (x : KInfo), ks[i]? = some r → L[i]? = some x → OwnT w x.fp r x.v1 x.v2
  nd : (vblk v ++ fps L).Nodup
  lo : ∀ b, b ∈ vblk v ++ fps L → lo ≤ b
theorem KApp.first (w : World) (lo : Nat) (ks : List Rex) : KApp w lo ks 0 nilS [] :=
  ⟨by simpa [kcells] using World.ownsRow_nil w lo TRx 3, rfl, Nat.zero_le _, fun i r x _ h => by simp at h, by simp [fps, vblk_nil], fun b hb => by simp [fps, vblk_nil] at hb⟩
theorem vblk_nodup (v : Value) : (vblk v).Nodup := by unfold vblk; split <;> simp
theorem KApp.lt {w : World} {lo : Nat} {ks : List Rex} {j : Nat} {v : Value} {L : List KInfo} (h : KApp w lo ks j v L) : ∀ b, b ∈ vblk v ++ fps L → b < w.heap.size := by
  intro b hb
  rcases List.mem_append.1 hb with hb | hb
  · exact (own_vlt h.own b hb).2
  · obtain ⟨i, x, hx, hb⟩ := mem_fps.1 hb
    have hi := (List.getElem?_eq_some_iff.1 hx).1
    have hl := h.len
    have hle := h.le
    exact (h.hr i (ks[i]'(by omega)) x (List.getElem?_eq_getElem _) hx).lt b hb
theorem KApp.snoc {wr wD wE : World} {lo : Nat} {ks : List Rex} {j : Nat} {v v' : Value} {L : List KInfo} {r : Rex} {fp : List Nat} {v1 v2 : Value} {O : Obj} {g o : Nat} {u : Value} (h : KApp wr lo ks j v L) (hr : ks[j]? = some r) (b2 : Below wr.heap.size wr wD)
    (ho : OwnT wD fp r v1 v2) (hf : ∀ b, b ∈ fp → wr.heap.size ≤ b) (hn : fp.Nodup) (he : wE.ownsRow lo TRx 3 v' (j + 1) (kcells (ks.take j) L ++ [.int .i64 r.kind, v1, v2])) (hg : (wD.alloc O).grownBy wE v.ownBlock)
    (hat : ∀ b, b ∈ vblk v' → b ∈ vblk v ∨ b = (wD.alloc O).heap.size) (hgl : g < lo) (hlo : lo ≤ wr.heap.size) : KApp (wE.setCell ⟨g, o, none⟩ u) lo ks (j + 1) v' (L ++ [⟨fp, v1, v2⟩]) := by
  have hj := (List.getElem?_eq_some_iff.1 hr).1
  have hlen := h.len
  have hlt := h.lt
  obtain ⟨n1, n2, n3⟩ := List.nodup_append.1 h.nd
  have hz : (wD.alloc O).heap.size = wD.heap.size + 1 := by simp
  rw [hz] at hat
  have hzD := b2.size
  have stay : ∀ b, b < wD.heap.size → b ∉ vblk v → b ≠ g → (wE.setCell ⟨g, o, none⟩ u).heap[b]? = wD.heap[b]? := fun b hb hv hbg =>
    (Below.heap_setCell _ _ _ _ hbg).trans ((hg.block b (by rw [hz]; omega) fun e => hv (mem_vblk.2 e.symm)).trans ((below_alloc (Below.refl wD.heap.size wD) O).block b hb))
  refine ⟨?_, by simp [hlen], hj, ?_, ?_, ?_⟩
  · have e : kcells (ks.take (j + 1)) (L ++ [⟨fp, v1, v2⟩]) = kcells (ks.take j) L ++ [.int .i64 r.kind, v1, v2] := by
      rw [List.take_add_one, hr]
      exact kcells_append _ _ _ ⟨fp, v1, v2⟩ (by rw [List.length_take]; omega)
    rw [e]
    exact own_move he fun b hb => Below.heap_setCell _ _ _ _ (fun e => by have := (own_vlt he b (mem_vblk.2 hb)).1; have e' : b = g := e; omega)
  · intro i r' x hi hx
    by_cases e : i < L.length
    · rw [List.getElem?_append_left e] at hx
      have hT := h.hr i r' x hi hx
      refine (hT.under b2).stay fun b hb => stay b (Nat.lt_of_lt_of_le (hT.lt b hb) hzD) (fun hv => n3 b hv b (mem_fps.2 ⟨i, x, hx, hb⟩) rfl) fun eg => ?_
      have := h.lo b (by simp [mem_fps.2 ⟨i, x, hx, hb⟩])
      omega
    · have e2 : i = L.length := by
        have := (List.getElem?_eq_some_iff.1 hx).1
        simp at this
        omega
      subst e2
      rw [hlen, hr] at hi
      obtain rfl := Option.some.inj hi
      simp at hx
      subst hx
      refine ho.stay fun b hb => stay b (ho.lt b hb) (fun hv => ?_) fun eg => ?_
      · have := (own_vlt h.own b hv).2; have := hf b hb; omega
      · have := hf b hb; omega
  · have e : fps (L ++ [⟨fp, v1, v2⟩]) = fps L ++ fp := by rw [fps_append]; simp [fps]
    rw [e]
    refine List.nodup_append.2 ⟨vblk_nodup _, List.nodup_append.2 ⟨n2, hn, fun a ha b hb eq => ?_⟩, fun a ha b hb eq => ?_⟩
    · have := hlt a (by simp [ha]); have := hf b hb; omega
    · subst eq
      rcases hat a ha with hv | hv
      · rcases List.mem_append.1 hb with hb | hb
        · exact n3 a hv a hb rfl
        · have := (own_vlt h.own a hv).2; have := hf a hb; omega
      · rcases List.mem_append.1 hb with hb | hb
        · have := hlt a (by simp [hb]); omega
        · have := ho.lt a hb; omega
  · have e : fps (L ++ [⟨fp, v1, v2⟩]) = fps L ++ fp := by rw [fps_append]; simp [fps]
    rw [e]
    intro b hb
    rcases List.mem_append.1 hb with hb | hb
    · exact (own_vlt he b hb).1
    · rcases List.mem_append.1 hb with hb | hb
      · exact h.lo b (by simp [hb])
      · exact Nat.le_trans hlo (hf b hb)
theorem KApp.done {w : World} {lo : Nat} {ks : List Rex} {j : Nat} {v : Value} {L : List KInfo} (h : KApp w lo ks j v L) (hj : j = ks.length) (hn : ks.length ≤ maxN) : OwnK w (vblk v ++ fps L) ks v L := by
  subst hj
  have e := h.own
  rw [List.take_length] at e
  exact ⟨h.len.symm, own_lower e (Nat.zero_le _), hn, h.hr, rfl, h.nd⟩
def SCopyOk (r : Rex) : Prop := ∀ (v1 v2 : Value) (w : World) (lo : Nat), RexV w lo r (.int .i64 r.kind) v1 v2 → r.size ≤ 1073741824 →
  Calls Tryd.prog 85 #[.agg #[.int .i64 r.kind, v1, v2]] w (CopyPost r.kind r.set r.kids w)

def SCopyOk' (r : Rex) : Prop := ∀ (v1 v2 : Value) (w : World) (lo : Nat), RexV w lo r (.int .i64 r.kind) v1 v2 → r.size ≤ 1073741824 →
  Calls Tryd.prog 85 #[.agg #[.int .i64 r.kind, v1, v2]] w fun e w' => ∃ v, e = .returned v ∧ ∃ u1 u2 fp, v = .agg #[.int .i64 r.kind, u1, u2] ∧ OwnT w' fp (.mk r.kind r.set r.kids) u1 u2 ∧ fp.Nodup ∧ (∀ b, b ∈ fp → w.heap.size ≤ b) ∧ Below w.heap.size w w'
set_option maxRecDepth 100000 in
set_option maxHeartbeats 4000000 in
theorem sCopy_c (r : Rex) : SCopyOk r := by
  refine Rex.ind (p := SCopyOk) (fun k s ks ih => ?_) r
  have ih' : ∀ r, r ∈ ks → SCopyOk' r := fun r hr v1 v2 w lo h hsz => (ih r hr v1 v2 w lo h hsz).mono fun e w' ⟨u1, u2, fp, he, rest⟩ => ⟨_, he, u1, u2, fp, rfl, rest⟩
  intro v1 v2 w lo h hsz
  obtain ⟨A, c, K, ck, _, rfl, rfl, hs, hk⟩ := h.parts
  dsimp only [Rex.kind, Rex.set, Rex.kids] at hs hk ⊢
  rw [Rex.size] at hsz
  clear h
  obtain ⟨wa, hwa⟩ : ∃ x, x = (w.alloc (.cells #[.int .i64 k, .slice A s.length c, .slice K ks.length ck] TRx)).alloc (.cells #[.int .i64 0, nilS, nilS] TRx) := ⟨_, rfl⟩
  have hb : Below w.heap.size w wa := by rw [hwa]; exact below_alloc (below_alloc (Below.refl _ _) _) _
  have m0 : Blk wa w.heap.size #[.int .i64 k, .slice A s.length c, .slice K ks.length ck] TRx := by rw [hwa]; exact (blk_new w _ _).alloc _
  have m1 : Blk wa (w.heap.size + 1) #[.int .i64 0, nilS, nilS] TRx := by
    rw [hwa]
    have := blk_new (w.alloc (.cells #[.int .i64 k, .slice A s.length c, .slice K ks.length ck] TRx)) #[.int .i64 0, nilS, nilS] TRx
    simpa using this
  have hz1 : w.heap.size + 1 < wa.heap.size := m1.lt
  replace hwa := hwa.symm
  have HB := Lib.hid hb
  have M0 := Lib.hid m0
  have M1 := Lib.hid m1
  have HS := Lib.hid (hs.below hb)
  have HK := Lib.hid (hk.below hb)
  clear hb m0 m1 hs hk
  have HM : Hid (∀ w', Below wa.heap.size wa w' → w'.cell? ⟨w.heap.size, 0, none⟩ = some (.int .i64 k) ∧ w'.cell? ⟨w.heap.size, 1, none⟩ = some (.slice A s.length c)) := fun w' hb =>
    ⟨by rw [(M0.out.below hb).cell]; rfl, by rw [(M0.out.below hb).cell]; rfl⟩
  obtain ⟨i0, hi, hz0, hza, hz2⟩ := info_parts infoSp
  have BW1 : Hid (Below wa.heap.size wa (wa.alloc E0).drew) := below_drew (below_alloc (Below.refl _ _) _)
  have BW2 : Hid (Below wa.heap.size wa ((wa.alloc E0).alloc Z0).drew) := below_drew (below_alloc (below_alloc (Below.refl _ _) _) _)
  have BW3 : Hid (Below wa.heap.size wa ((wa.alloc Z0).alloc E0).drew) := below_drew (below_alloc (below_alloc (Below.refl _ _) _) _)
  have OW1 : Hid ((wa.alloc E0).drew.ownsRow wa.heap.size TSp 2 (.slice (some ⟨wa.heap.size, 0, none⟩) 0 0) 0 []) := own_below (own_e wa (Nat.le_refl _)) (below_drew (Below.refl _ _))
  have OW2 : Hid (((wa.alloc E0).alloc Z0).drew.ownsRow wa.heap.size TSp 2 (.slice (some ⟨wa.heap.size, 0, none⟩) 0 0) 0 []) := own_below (own_e wa (Nat.le_refl _)) (below_drew (below_alloc (Below.refl _ _) _))
  have OW3 : Hid (((wa.alloc Z0).alloc E0).drew.ownsRow wa.heap.size TSp 2 (.slice (some ⟨wa.heap.size + 1, 0, none⟩) 0 0) 0 []) := by
    have := own_below (own_e (wa.alloc Z0) (lo := wa.heap.size) (by simp)) (below_drew (Below.refl _ _))
    rw [show (wa.alloc Z0).heap.size = wa.heap.size + 1 by simp] at this
    exact this
  have ZW2 : Hid (Blk ((wa.alloc E0).alloc Z0).drew (wa.heap.size + 1) #[.int .i64 0, nilS, nilS] TRx) := by
    have := (blk_new (wa.alloc E0) #[.int .i64 0, nilS, nilS] TRx).below (below_drew (Below.refl _ _))
    rw [show (wa.alloc E0).heap.size = wa.heap.size + 1 by simp] at this
    exact this
  have ZW3 : Hid (Blk ((wa.alloc Z0).alloc E0).drew wa.heap.size #[.int .i64 0, nilS, nilS] TRx) := (((blk_new wa #[.int .i64 0, nilS, nilS] TRx).alloc _).below (below_drew (Below.refl _ _)))
  go_enter Tryd.func85, Tryd.ntmps85
  go_upto_region 1 with fail
  clear hwa
  go_cut [3] (fun s3 wx => LitMidP wa k s s3 wx)
  case first =>
    go_region_held3 (fun w' => Below wa.heap.size wa w' ∧ w'.cell? ⟨w.heap.size, 0, none⟩ = some (.int .i64 k) ∧ w'.cell? ⟨w.heap.size, 1, none⟩ = some (.slice A s.length c))
      ((refine (fun h => ⟨h, HM.out _ h⟩ : Below wa.heap.size wa _ → _) ?_; (repeat (first | exact BB.out | exact Below.refl _ _ | exact below_drew (Below.refl _ _) | refine below_alloc ?_ _ | refine below_drew ?_ | refine below_set ?_ (by first | exact Nat.le_refl _ | exact BB.out.size | exact Nat.le_succ _) _))))
      ((refine step_append_row (by rfl) (.tmp 7) (.tmp 9) 25 (by rfl) wa.heap.size TSp i0 (.agg #[.int .i64 0, .int .i64 0]) 2 16 Tryd.underlying25 hi hz0 hza hz2 rfl (by decide) _ 0 [] (by rfl) (by first | exact OW1.out | exact OW2.out | exact OW3.out) A s.length c (spcs s) (by rfl) (HS.out.below (by first | exact BW1.out | exact BW2.out | exact BW3.out)).row (spcs_length _) (spcs_one _) (by unfold maxLen; omega) (by omega) (by first | exact BW1.out.size | exact BW2.out.size | exact BW3.out.size) _ rfl s.length (Nat.zero_add _) ?_; intro A1 c1 wB hown hgrow hat; have OS : Hid (wB.ownsRow wa.heap.size TSp 2 (.slice A1 s.length c1) s.length (spcs s)) := hown; (first | have BB := Lib.hid (BW1.out.grown (show (wa.alloc E0).drew.grownBy wB (some wa.heap.size) from hgrow) BW1.out.size (fun k hk => by injection hk with hk; omega)) | (have g2 : ((wa.alloc E0).alloc Z0).drew.grownBy wB (some wa.heap.size) := hgrow; have BB := Lib.hid (BW2.out.grown g2 BW2.out.size (fun k hk => by injection hk with hk; omega)); have Z := ZW2.out.grown g2 (fun k hk => by injection hk with hk; omega); have HV : Hid (wa.heap.size + 1 ∉ vblk (.slice A1 s.length c1)) := hv2 (n := wa.heap.size) hat (by omega) (by first | (simp; done) | (simp; omega)); clear g2) | (have g3 : ((wa.alloc Z0).alloc E0).drew.grownBy wB (some (wa.heap.size + 1)) := hgrow; have BB := Lib.hid (BW3.out.grown g3 BW3.out.size (fun k hk => by injection hk with hk; omega)); have Z := ZW3.out.grown g3 (fun k hk => by injection hk with hk; omega); have HV : Hid (wa.heap.size ∉ vblk (.slice A1 s.length c1)) := hv2 (n := wa.heap.size + 1) hat (by omega) (by first | (simp; done) | (simp; omega)); clear g3)); (first | (have z0 := (Z.cell 0).trans rfl; have z1 := (Z.cell 1).trans rfl; have z2 := (Z.cell 2).trans rfl; have f0 := Z.free 0; have f1 := Z.free 1; have f2 := Z.free 2; have HZ := Lib.hid Z; clear Z) | skip); clear hown hgrow hat))
    all_goals
      go_wp2_with fail
      go_meet
      first
        | exact lit1 HS.out.len OS.out BB.out
        | exact lit2 HS.out.len OS.out BB.out HZ.out (by omega) HV.out
  case rest =>
    obtain ⟨g, vS, rfl, hm⟩ := hcut
    have hgl := hm.gl
    obtain ⟨A1, c1, eS, _⟩ := hm.set.sps
    subst eS
    have HBG := Lib.hid hm.blk
    have HOS := Lib.hid hm.set
    have HBE := Lib.hid hm.bel
    have HGS := Lib.hid hm.gS
    have hgc : g < wc.heap.size := hm.blk.lt
    have hzc : wa.heap.size ≤ wc.heap.size := hm.bel.size
    have HVS : Hid (∀ b, b ∈ vblk (.slice A1 s.length c1) → b < wc.heap.size) := fun b hb => (hm.set.lt b hb).2
    have HM1 := Lib.hid (M1.out.below hm.bel)
    have HM0 := Lib.hid (M0.out.below hm.bel)
    have hlen : ks.length ≤ 1073741824 := by omega
    clear hm HM HS M0 M1 OW1 OW2 OW3 BW1 BW2 BW3 ZW2 ZW3 hi hz0 hza hz2
    obtain ⟨i1, hi, hz0, hza, hz2⟩ := info_parts infoRx
    go_wp2_with fail
    go_loopg [4] (ks.length) (fun n i wr => ∃ j : Nat, j + n = ks.length ∧ i = .int .i64 j ∧ ∃ (A2 : Option Addr) (c2 : Nat) (L : List KInfo), Hid (KApp wr wc.heap.size ks j (.slice A2 j c2) L) ∧
      Hid (Blk wr g #[.int .i64 k, .slice A1 s.length c1, .slice A2 j c2] TRx) ∧ Hid (OwnSp wr wa.heap.size (.slice A1 s.length c1) s) ∧ Hid (Below wa.heap.size wa wr) ∧ Hid (Blk wr (w.heap.size + 1) #[.int .i64 0, nilS, nilS] TRx) ∧ Hid (Blk wr w.heap.size #[.int .i64 k, .slice A s.length c, .slice K ks.length ck] TRx) ∧ Hid (wc.heap.size ≤ wr.heap.size))
    case atStart => exact ⟨0, by omega, rfl, none, 0, [], KApp.first _ _ _, HBG, HOS, HBE, HM1, HM0, Nat.le_refl _⟩
    case round =>
      clear HBG HOS HBE HM1 HM0
      obtain ⟨j, hj, rfl, A2, c2, L, HX, HBG, HOS, HBE, HM1, HM0, HWZ⟩ := hrel
      have n2 : wr.cell? ⟨g, 2, none⟩ = some (.slice A2 j c2) := by rw [HBG.out.cell]; rfl
      have m2 : wr.cell? ⟨w.heap.size, 2, none⟩ = some (.slice K ks.length ck) := by rw [HM0.out.cell]; rfl
      by_cases hlt : j < ks.length
      · obtain ⟨a, r, x1, x2, rfl, HR, HD, HV, d0, d1, d2⟩ := (HK.out.below HBE.out).at_ j hlt
        obtain ⟨A3, c3, K3, e3, _, rfl, rfl, _⟩ := HV.out.parts
        have hmem := List.mem_of_getElem? HR.out
        have hks := size_kid hmem
        have HOW := Lib.hid HX.out.own
        have HVK : Hid (∀ b, b ∈ vblk (.slice A2 j c2) → wc.heap.size ≤ b) := fun b hb => HX.out.lo b (by simp [hb])
        have HBB : Hid (∀ q, (Value.slice A2 j c2).ownBlock = some q → q ≠ g) := fun q hq e => by have := HVK.out q (mem_vblk.2 hq); omega
        go_wp2
        go_region_law (first
          | (refine step_append_row (by rfl) (.tmp 20) (.tmp 27) 34 (by rfl) wc.heap.size TRx i1 (.agg #[.int .i64 0, nilS, nilS]) 3 56 Tryd.underlying34 hi hz0 hza hz2 rfl (by decide) (.slice A2 j c2) j (kcells (ks.take j) L) (by rfl) (own_below (own_below HOW.out BD.out) (below_alloc (Below.refl _ _) _)) (some ⟨wD.heap.size, 0, none⟩) 1 1 [.int .i64 r.kind, .slice A4 r.set.length c4, .slice K4 r.kids.length d4] (by rfl) (.inr ⟨⟨wD.heap.size, 0, none⟩, rfl, Nat.zero_le _, new_cells wD [.int .i64 r.kind, .slice A4 r.set.length c4, .slice K4 r.kids.length d4] TRx⟩) rfl (three_one _ _ _ _ _ _ _) (by unfold maxLen; omega) (by omega) (by simp; omega) _ rfl (j + 1) rfl ?_; intro A5 c5 wE hown hgrow hat; have HE := Lib.hid hown; have HG := Lib.hid hgrow; have HAT := Lib.hid hat; have ZB := ((HBG.out.below BD.out).alloc (.cells #[.int .i64 r.kind, .slice A4 r.set.length c4, .slice K4 r.kids.length d4] TRx)).grown hgrow HBB.out; have q2 := (ZB.cell 2).trans rfl; have f2 := ZB.free 2; have HZB := Lib.hid ZB; clear ZB hown hgrow hat)
          | (refine step_call (by rfl) 85 _ _ (by rfl) _ Tryd.func85 (by kernel_rfl) (by kernel_rfl) #[.agg #[.int .i64 r.kind, .slice A3 r.set.length c3, .slice K3 r.kids.length e3]] (by rfl) (ih' r hmem _ _ _ _ (HV.out.under (below_drew (Below.refl _ _))) (by omega)) ?_; rintro _ wD ⟨u1, u2, fp, rfl, ho, hnd, hf, b3⟩; rw [← Rex.eta r] at ho; obtain ⟨L4, fk4, _, _, hos4, hok4⟩ := ho.parts; obtain ⟨A4, c4, rfl, _⟩ := hos4.sps; obtain ⟨K4, d4, rfl, _, _⟩ := own_row hok4.hk; clear hos4 hok4; have BD : Hid (Below wr.heap.size wr wD) := below_then (below_drew (Below.refl _ _)) b3; have HO := Lib.hid ho; have HND := Lib.hid hnd; have HF : Hid (∀ b, b ∈ fp → wr.heap.size ≤ b) := hf; have hzD : wc.heap.size ≤ wD.heap.size := Nat.le_trans HWZ.out BD.out.size; clear ho hnd hf b3; have y2 := (((HBG.out.below BD.out).cell 2).trans rfl : wD.cell? ⟨g, 2, none⟩ = some (.slice A2 j c2)); have ya := fun o => cell_alloc y2 o))
        all_goals
          clear y2 ya q2 f2 n2 m2 d0 d1 d2
          go_wp2
          go_roundg (gk - 1)
          case rel =>
            have hgE : Hid (Below wr.heap.size wr wD) := BD.out
            have keep : ∀ b, b < wc.heap.size → b ≠ g → (wE.setCell ⟨g, 2, none⟩ (.slice A5 (j + 1) c5)).heap[b]? = wr.heap[b]? := fun b hb hne =>
              (Below.heap_setCell _ _ _ _ hne).trans ((HG.out.block b (by simp; omega) fun e => by have := HVK.out b (mem_vblk.2 e.symm); omega).trans (((below_alloc (Below.refl wD.heap.size wD) _).block b (by omega)).trans (BD.out.block b (Nat.lt_of_lt_of_le hb HWZ.out))))
            have hsz : wc.heap.size ≤ (wE.setCell ⟨g, 2, none⟩ (.slice A5 (j + 1) c5)).heap.size := by
              simp only [World.size_setCell]
              exact Nat.le_trans hzD (Nat.le_trans (by simp) HG.out.size)
            refine ⟨j + 1, by omega, by go_num, A5, c5, _, HX.out.snoc HR.out BD.out HO.out HF.out HND.out HE.out HG.out HAT.out hgc HWZ.out, Lib.hid (by simpa using HZB.out.set 2 (.slice A5 (j + 1) c5)), HOS.out.stay fun b hb => keep b (HVS.out b hb) fun e => HGS.out (e ▸ hb), ?_, ⟨(keep _ (by omega) (by omega)).trans HM1.out.eq⟩, ⟨(keep _ (by omega) (by omega)).trans HM0.out.eq⟩, hsz⟩
            refine ((below_then HBE.out (below_then BD.out ((below_alloc (Below.refl wD.heap.size wD) _)))).grown HG.out (by simp; omega) fun q hq => ?_) |> fun hb => below_set hb hgl _
            have := HVK.out q (mem_vblk.2 hq)
            omega
          case measure => omega
      · have hj' : j = ks.length := by omega
        subst hj'
        have HOK := Lib.hid (HX.out.done rfl (by unfold maxN; omega))
        have HFK : Hid (∀ b, b ∈ vblk (.slice A2 ks.length c2) ++ fps L → wa.heap.size ≤ b ∧ b ∉ vblk (.slice A1 s.length c1)) := fun b hb => ⟨Nat.le_trans hzc (HX.out.lo b hb), fun h => by have h1 := HX.out.lo b hb; have h2 := HVS.out b h; omega⟩
        have HM1' := HM1
        clear hj HX n2
        go_wp2_with (first
          | ((with_reducible refine at_ld 30 ?_); refine ev_load (o := ⟨some 30, _, _, _, _, _⟩) rfl TRx _ rfl g rfl [.int .i64 k, .slice A1 s.length c1, .slice A2 ks.length c2] TRx HBG.out _ Tryd.underlying36 rfl (sizeRx' _ _ _) ?_)
          | ((with_reducible refine at_st 2 30 ?_); refine ev_store (o := ⟨none, .store _ (.tmp 2) _, _, _, _, _⟩) rfl rfl TRx (.tmp 2) (.tmp 30) rfl (w.heap.size + 1) 0 rfl [.int .i64 k, .slice A1 s.length c1, .slice A2 ks.length c2] rfl _ TRx HM1.out (sizeRx' _ _ _) (by show 0 + 3 ≤ 3; omega) (three_one _ _ _ _ _ _ _) ?_; intro w5 hX5 hg5; have HX5 : Hid (Blk w5 (w.heap.size + 1) #[.int .i64 k, .slice A1 s.length c1, .slice A2 ks.length c2] TRx) := hX5; have HG5 := Lib.hid hg5; clear hX5 hg5))
        refine bodyPost_ret (results_cell_row rfl _ _ (w.heap.size + 1) TRx _ (0, 0) _ rfl HX5.out.eq Tryd.underlying36 rfl (by rw [sizeRx]; rfl)) rfl ?_
        exact copy_fin hz1 HB.out HOS.out HOK.out HBE.out HFK.out HG5.out

end Go.Proofs.YtlchipjckgaclaaDoor

/- Patterns as texts: writeRex of the program. -/
namespace Go.Proofs.YtlchipjckgaclaaDoor
set_option linter.unusedSimpArgs false
set_option linter.unusedVariables false
set_option maxRecDepth 100000
open Go.RowKit

theorem manyLT : ∀ (ks : List Rex) (j : Nat) {r : Rex}, ks[j]? = some r → manyL (ks.take j) + r.many ≤ manyL ks
  | [], j, r, h => by simp at h
  | x :: ks, 0, r, h => by
    simp at h
    subst h
    simp [manyL]
  | x :: ks, j + 1, r, h => by
    have := manyLT ks j (r := r) (by simpa using h)
    rw [List.take_succ_cons, manyL, manyL]
    omega
def WriteOk (r : Rex) : Prop := ∀ (d : Nat) (v1 v2 : Value) (w0 w : World) (lo : Nat) (A2 : Option Addr) (n2 c2 : Nat) (ws : List (List UInt8)), formed d r = true → RexV w0 lo r (.int .i64 r.kind) v1 v2 → Below w0.heap.size w0 w →
  w.ownsRow w0.heap.size TStr 1 (.slice A2 n2 c2) n2 (wcells ws) → n2 = ws.length → r.size ≤ 1048576 → n2 + 2 * r.many ≤ 1000 → Pow10 w0 →
  Calls Tryd.prog 82 #[.agg #[.int .i64 r.kind, v1, v2], .slice A2 n2 c2] w fun e w' => ∃ A3 n3 c3, e = .returned (.slice A3 n3 c3) ∧ n3 = (ws ++ wordsOf r).length ∧ w'.ownsRow w0.heap.size TStr 1 (.slice A3 n3 c3) n3 (wcells (ws ++ wordsOf r)) ∧ Below w0.heap.size w0 w'

set_option maxHeartbeats 2000000 in
theorem iWrite_c (r : Rex) : WriteOk r := by
  refine Rex.ind (p := WriteOk) (fun k s ks ih => ?_) r
  intro d v1 v2 w0 w lo A2 n2 c2 ws hd h hbel ho hn hsz hmn hp
  obtain ⟨A, c, K, ck, _, rfl, rfl, hs, hk⟩ := h.parts
  dsimp only [Rex.kind, Rex.set, Rex.kids] at hs hk ⊢
  rw [Rex.size] at hsz
  rw [Rex.many] at hmn
  clear h
  obtain ⟨hkk, _, hok, _, hfk⟩ := formed_node hd
  have HFK : Hid (∀ r, r ∈ ks → formed (d - 1) r = true) := hfk
  have HPW := Lib.hid hp
  have HN0 := Lib.hid hn
  have hkind : k = 1 ∨ k = 2 ∨ k = 3 ∨ k = 4 ∨ k = 5 ∨ k = 6 ∨ k = 7 := by
    rcases kidsOf_cases hkk with ⟨e, _⟩ | ⟨e, _⟩ | ⟨e, _⟩ <;> omega
  have H64 := Lib.hid (ok_64 hok)
  obtain ⟨iS, hiS, hzS0, hzS1, hzS2⟩ := info_parts infoStr
  obtain ⟨wa, hwa⟩ : ∃ x, x = w.alloc (.cells #[.int .i64 k, .slice A s.length c, .slice K ks.length ck] TRx) := ⟨_, rfl⟩
  have hb : Below w.heap.size w wa := by rw [hwa]; exact below_alloc (Below.refl _ _) _
  have m0 : Blk wa w.heap.size #[.int .i64 k, .slice A s.length c, .slice K ks.length ck] TRx := by rw [hwa]; exact blk_new w _ _
  replace hwa := hwa.symm
  have HK := Lib.hid hk
  have HS := Lib.hid hs
  have HBa := Lib.hid (below_then hbel hb)
  have HOa := Lib.hid ho
  have HOaa := Lib.hid (own_below ho hb)
  have hzw := hbel.size
  have M0 := Lib.hid m0
  have n0 : wa.cell? ⟨w.heap.size, 0, none⟩ = some (.int .i64 k) := by rw [m0.cell]; rfl
  clear hs hk ho hd hok hfk hp hkk hbel hn
  go_enter Tryd.func82, Tryd.ntmps82
  go_wp2_with fail
  clear hwa
  refine (iRexWord_c k wa hkind).mono ?_
  rintro e w1 ⟨rfl, b1⟩
  have B1 := Lib.hid (below_then HBa.out b1)
  have bw1 := Lib.hid (below_then hb b1)
  replace M0 := Lib.hid (M0.out.below b1)
  obtain ⟨tx, htx⟩ : ∃ t, t = str (kw k) := ⟨_, rfl⟩
  rw [← htx]
  have HTX := Lib.hid htx
  clear htx n0 b1 m0 hb
  have hz1 := M0.out.lt
  have HNE : Hid (∀ q, (Value.slice A2 n2 c2).ownBlock = some q → q ≠ w.heap.size) := fun q hq e => by have := (own_base HOa.out q hq).2; omega
  have OWN0 := HOa
  have BLW := bw1
  by_cases h1 : k = 1
  · subst h1
    obtain ⟨yss, hyss⟩ : ∃ y, y = ws ++ [kw 1] ++ [setTxt s] := ⟨_, rfl⟩
    have HYS := Lib.hid hyss
    have hyl : Hid (yss.length = n2 + 2) := by show _ = _; have := HN0.out; rw [hyss]; simp; omega
    have HY : Hid (yss ++ wordsL ks = ws ++ wordsOf (.mk 1 s ks)) := by show _ = _; rw [hyss, wordsOf, if_pos rfl]; simp
    clear hyss
    have hn1 : n2 + 1 ≤ maxLen := by unfold maxLen; omega
    have hn2 : (n2 + 1) * 16 ≤ 140737488355328 := by omega
    have hn3 := B1.out.size
    have OW := Lib.hid (own_below OWN0.out BLW.out)
    go_wp2_with (at_builtin; refine wpList_append_row (by rfl) (.tmp 7) (.tmp 11) 63 (by rfl) w0.heap.size TStr iS (.string ⟨#[]⟩) 1 16 Tryd.underlying63 hiS hzS0 hzS1 hzS2 rfl (by decide) (.slice A2 n2 c2) n2 (wcells ws) (by rfl) (own_below OW.out (below_alloc (Below.refl _ _) _)) (some ⟨w1.heap.size, 0, none⟩) 1 1 [.string tx] (by rfl) (.inr ⟨⟨w1.heap.size, 0, none⟩, rfl, Nat.zero_le _, new_cells w1 [.string tx] TStr⟩) rfl (fun u hu => by rw [List.mem_singleton.1 hu]; rfl) hn1 hn2 (by simp; omega) _ rfl (n2 + 1) rfl ?_; intro AE cE wE hown hgrow hat; have HE := Lib.hid hown; have BE := Lib.hid ((below_alloc B1.out _).grown hgrow (by simp; omega) (fun q hq => (own_base OW.out q hq).1)); have ZB := Lib.hid ((M0.out.alloc (.cells #[.string tx] TStr)).grown hgrow HNE.out); have HAT := Lib.hid hat; have n0 : wE.cell? ⟨w.heap.size, 0, none⟩ = some (.int .i64 (1)) := (by rw [ZB.out.cell]; rfl); have n1 : wE.cell? ⟨w.heap.size, 1, none⟩ = some (.slice A s.length c) := (by rw [ZB.out.cell]; rfl); have n2' : wE.cell? ⟨w.heap.size, 2, none⟩ = some (.slice K ks.length ck) := (by rw [ZB.out.cell]; rfl); clear hown hgrow hat)
    have HNE2 : Hid (∀ q, (Value.slice AE (n2 + 1) cE).ownBlock = some q → q ≠ w.heap.size) := fun q hq e => by
      rcases HAT.out q (mem_vblk.2 hq) with h1 | h1
      · have := (own_base HOa.out q (mem_vblk.1 h1)).2; omega
      · simp at h1; omega
    have HE1 : Hid (wE.ownsRow w0.heap.size TStr 1 (.slice AE (n2 + 1) cE) (n2 + 1) (wcells (ws ++ [kw 1]))) := by show World.ownsRow _ _ _ _ _ _ _; rw [wcells_snoc, ← HTX.out]; exact HE.out
    clear HNE HAT HE OW hn1 hn2 hn3 HOaa HBa B1 OWN0 BLW
    refine (iSetText_c A c s wE (HS.out.below BE.out) H64.out (by omega) (HPW.out.below BE.out)).mono ?_
    rintro e w4 ⟨rfl, b4⟩
    have B4 := Lib.hid (below_then BE.out b4)
    have b4h := Lib.hid b4
    replace M0 := Lib.hid (ZB.out.below b4)
    clear n0 n1 n2' ZB BE HTX b4
    obtain ⟨tx2, htx⟩ : ∃ t, t = str (setTxt s) := ⟨_, rfl⟩
    rw [← htx]
    have HTX := Lib.hid htx
    clear htx
    have HNE := HNE2
    clear HNE2
    obtain ⟨tx, htx⟩ : ∃ t, t = tx2 := ⟨_, rfl⟩
    rw [← htx]
    replace htx := Lib.hid htx
    have OWN0 := HE1
    have BLW := b4h
    have hn1 : (n2 + 1) + 1 ≤ maxLen := by unfold maxLen; omega
    have hn2 : ((n2 + 1) + 1) * 16 ≤ 140737488355328 := by omega
    have hn3 := B4.out.size
    have OW := Lib.hid (own_below OWN0.out BLW.out)
    go_wp2_with (at_builtin; refine wpList_append_row (by rfl) (.tmp 16) (.tmp 20) 63 (by rfl) w0.heap.size TStr iS (.string ⟨#[]⟩) 1 16 Tryd.underlying63 hiS hzS0 hzS1 hzS2 rfl (by decide) (.slice AE (n2 + 1) cE) (n2 + 1) (wcells (ws ++ [kw 1])) (by rfl) (own_below OW.out (below_alloc (Below.refl _ _) _)) (some ⟨w4.heap.size, 0, none⟩) 1 1 [.string tx] (by rfl) (.inr ⟨⟨w4.heap.size, 0, none⟩, rfl, Nat.zero_le _, new_cells w4 [.string tx] TStr⟩) rfl (fun u hu => by rw [List.mem_singleton.1 hu]; rfl) hn1 hn2 (by simp; omega) _ rfl ((n2 + 1) + 1) rfl ?_; intro AE cE wE hown hgrow hat; have HE := Lib.hid hown; have BE := Lib.hid ((below_alloc B4.out _).grown hgrow (by simp; omega) (fun q hq => (own_base OW.out q hq).1)); have ZB := Lib.hid ((M0.out.alloc (.cells #[.string tx] TStr)).grown hgrow HNE.out); have HAT := Lib.hid hat; have n0 : wE.cell? ⟨w.heap.size, 0, none⟩ = some (.int .i64 (1)) := (by rw [ZB.out.cell]; rfl); have n1 : wE.cell? ⟨w.heap.size, 1, none⟩ = some (.slice A s.length c) := (by rw [ZB.out.cell]; rfl); have n2' : wE.cell? ⟨w.heap.size, 2, none⟩ = some (.slice K ks.length ck) := (by rw [ZB.out.cell]; rfl); clear hown hgrow hat)
    have HO : Hid (wE.ownsRow w0.heap.size TStr 1 (.slice AE (n2 + 1 + 1) cE) (n2 + 1 + 1) (wcells yss)) := by show World.ownsRow _ _ _ _ _ _ _; rw [HYS.out, wcells_snoc, ← HTX.out, ← htx.out]; exact HE.out
    have HB := BE
    have HN : Hid (n2 + 1 + 1 = yss.length) := hyl.out.symm
    clear n0 n1 n2' HE BE ZB HAT OW hn1 hn2 hn3 HE1 HNE M0 OWN0 BLW
    go_loopg [1, 25] (ks.length) (fun n v i wr => ∃ j : Nat, j + n = ks.length ∧ i = .int .i64 j ∧ ∃ (A3 : Option Addr) (n3 c3 : Nat), v = .slice A3 n3 c3 ∧ Hid (n3 = (yss ++ wordsL (ks.take j)).length) ∧ Hid (wr.ownsRow w0.heap.size TStr 1 (.slice A3 n3 c3) n3 (wcells (yss ++ wordsL (ks.take j)))) ∧ Hid (Below w0.heap.size w0 wr))
    case atStart => exact ⟨0, by omega, rfl, _, _, _, rfl, by show _ = _; rw [HN.out]; simp [wordsL], by show World.ownsRow _ _ _ _ _ _ _; simpa [wordsL] using HO.out, HB⟩
    case round =>
      clear HO HB HN
      obtain ⟨j, hj, rfl, A3, n3, c3, rfl, HN, HO, HB⟩ := hrel
      by_cases hlt : j < ks.length
      · obtain ⟨a, r, x1, x2, rfl, HX, HD, HV, e0, e1, e2⟩ := HK.out.at_ j hlt
        obtain ⟨A2', q2, K2, d2, _, rfl, rfl, _⟩ := HV.out.parts
        have c0 := (HB.out.cell (World.block_lt_of_cell? w0 _ e0)).trans e0
        have c1 := (HB.out.cell (World.block_lt_of_cell? w0 _ e1)).trans e1
        have c2 := (HB.out.cell (World.block_lt_of_cell? w0 _ e2)).trans e2
        have hmem := List.mem_of_getElem? HX.out
        have hks := sizeL_kid hmem
        have hmt := manyLT ks j HX.out
        have hwl := wordsL_many (ks.take j)
        have HNL : Hid (n3 = yss.length + (wordsL (ks.take j)).length) := by show _ = _; rw [HN.out, List.length_append]
        have i0 : (0 : Int) ≤ (j : Int) := by omega
        have i1 : (j : Int) < (ks.length : Int) := by omega
        clear e0 e1 e2
        go_wp2_with fail
        refine (ih r hmem (d - 1) _ _ w0 _ lo A3 n3 c3 _ (HFK.out r hmem) HV.out (below_alloc HB.out _) (own_below HO.out (below_alloc (Below.refl _ _) _)) HN.out (by omega) (by have := HNL.out; have := hyl.out; omega) HPW.out).mono ?_
        rintro e w5 ⟨A4, n4, c4, rfl, h4, o4, b4⟩
        have HT := Lib.hid (wordsL_take HX.out)
        have HN4 : Hid (n4 = (yss ++ wordsL (ks.take (j + 1))).length) := by show _ = _; rw [h4, HT.out, ← List.append_assoc]
        have HO4 : Hid (w5.ownsRow w0.heap.size TStr 1 (.slice A4 n4 c4) n4 (wcells (yss ++ wordsL (ks.take (j + 1))))) := by show World.ownsRow _ _ _ _ _ _ _; rw [HT.out, ← List.append_assoc]; exact o4
        have HB4 := Lib.hid b4
        clear c0 c1 c2 h4 o4 b4 HNL
        go_wp2_with fail
        go_roundg (gk - 1)
        case measure => omega
        case rel => exact ⟨j + 1, by omega, by go_num, A4, n4, c4, rfl, HN4, HO4, HB4⟩
      · have hj' : j = ks.length := by omega
        subst hj'
        rw [List.take_length] at HO HN
        go_wp2_with fail
        go_ret
        refine ⟨A3, n3, c3, rfl, ?_, ?_, HB.out⟩
        · rw [HN.out, HY.out]
        · rw [← HY.out]; exact HO.out
  · have d0 : (k == 1) = false := by simp [h1]
    obtain ⟨yss, hyss⟩ : ∃ y, y = ws ++ [kw k] := ⟨_, rfl⟩
    have HYS := Lib.hid hyss
    have hyl : Hid (yss.length = n2 + 1) := by show _ = _; have := HN0.out; rw [hyss]; simp; omega
    have HY : Hid (yss ++ wordsL ks = ws ++ wordsOf (.mk k s ks)) := by show _ = _; rw [hyss, wordsOf, if_neg h1]; simp
    clear hyss h1
    have hn1 : n2 + 1 ≤ maxLen := by unfold maxLen; omega
    have hn2 : (n2 + 1) * 16 ≤ 140737488355328 := by omega
    have hn3 := B1.out.size
    have OW := Lib.hid (own_below OWN0.out BLW.out)
    go_wp2_with (at_builtin; refine wpList_append_row (by rfl) (.tmp 7) (.tmp 11) 63 (by rfl) w0.heap.size TStr iS (.string ⟨#[]⟩) 1 16 Tryd.underlying63 hiS hzS0 hzS1 hzS2 rfl (by decide) (.slice A2 n2 c2) n2 (wcells ws) (by rfl) (own_below OW.out (below_alloc (Below.refl _ _) _)) (some ⟨w1.heap.size, 0, none⟩) 1 1 [.string tx] (by rfl) (.inr ⟨⟨w1.heap.size, 0, none⟩, rfl, Nat.zero_le _, new_cells w1 [.string tx] TStr⟩) rfl (fun u hu => by rw [List.mem_singleton.1 hu]; rfl) hn1 hn2 (by simp; omega) _ rfl (n2 + 1) rfl ?_; intro AE cE wE hown hgrow hat; have HE := Lib.hid hown; have BE := Lib.hid ((below_alloc B1.out _).grown hgrow (by simp; omega) (fun q hq => (own_base OW.out q hq).1)); have ZB := Lib.hid ((M0.out.alloc (.cells #[.string tx] TStr)).grown hgrow HNE.out); have HAT := Lib.hid hat; have n0 : wE.cell? ⟨w.heap.size, 0, none⟩ = some (.int .i64 (k)) := (by rw [ZB.out.cell]; rfl); have n1 : wE.cell? ⟨w.heap.size, 1, none⟩ = some (.slice A s.length c) := (by rw [ZB.out.cell]; rfl); have n2' : wE.cell? ⟨w.heap.size, 2, none⟩ = some (.slice K ks.length ck) := (by rw [ZB.out.cell]; rfl); clear hown hgrow hat)
    have HO : Hid (wE.ownsRow w0.heap.size TStr 1 (.slice AE (n2 + 1) cE) (n2 + 1) (wcells yss)) := by show World.ownsRow _ _ _ _ _ _ _; rw [HYS.out, wcells_snoc, ← HTX.out]; exact HE.out
    have HB := BE
    have HN : Hid (n2 + 1 = yss.length) := hyl.out.symm
    clear n0 n1 n2' HE BE ZB M0 HNE HAT OW hn1 hn2 hn3 HOaa HBa B1 OWN0 BLW
    go_loopg [1, 25] (ks.length) (fun n v i wr => ∃ j : Nat, j + n = ks.length ∧ i = .int .i64 j ∧ ∃ (A3 : Option Addr) (n3 c3 : Nat), v = .slice A3 n3 c3 ∧ Hid (n3 = (yss ++ wordsL (ks.take j)).length) ∧ Hid (wr.ownsRow w0.heap.size TStr 1 (.slice A3 n3 c3) n3 (wcells (yss ++ wordsL (ks.take j)))) ∧ Hid (Below w0.heap.size w0 wr))
    case atStart => exact ⟨0, by omega, rfl, _, _, _, rfl, by show _ = _; rw [HN.out]; simp [wordsL], by show World.ownsRow _ _ _ _ _ _ _; simpa [wordsL] using HO.out, HB⟩
    case round =>
      clear HO HB HN
      obtain ⟨j, hj, rfl, A3, n3, c3, rfl, HN, HO, HB⟩ := hrel
      by_cases hlt : j < ks.length
      · obtain ⟨a, r, x1, x2, rfl, HX, HD, HV, e0, e1, e2⟩ := HK.out.at_ j hlt
        obtain ⟨A2', q2, K2, d2, _, rfl, rfl, _⟩ := HV.out.parts
        have c0 := (HB.out.cell (World.block_lt_of_cell? w0 _ e0)).trans e0
        have c1 := (HB.out.cell (World.block_lt_of_cell? w0 _ e1)).trans e1
        have c2 := (HB.out.cell (World.block_lt_of_cell? w0 _ e2)).trans e2
        have hmem := List.mem_of_getElem? HX.out
        have hks := sizeL_kid hmem
        have hmt := manyLT ks j HX.out
        have hwl := wordsL_many (ks.take j)
        have HNL : Hid (n3 = yss.length + (wordsL (ks.take j)).length) := by show _ = _; rw [HN.out, List.length_append]
        have i0 : (0 : Int) ≤ (j : Int) := by omega
        have i1 : (j : Int) < (ks.length : Int) := by omega
        clear e0 e1 e2
        go_wp2_with fail
        refine (ih r hmem (d - 1) _ _ w0 _ lo A3 n3 c3 _ (HFK.out r hmem) HV.out (below_alloc HB.out _) (own_below HO.out (below_alloc (Below.refl _ _) _)) HN.out (by omega) (by have := HNL.out; have := hyl.out; omega) HPW.out).mono ?_
        rintro e w5 ⟨A4, n4, c4, rfl, h4, o4, b4⟩
        have HT := Lib.hid (wordsL_take HX.out)
        have HN4 : Hid (n4 = (yss ++ wordsL (ks.take (j + 1))).length) := by show _ = _; rw [h4, HT.out, ← List.append_assoc]
        have HO4 : Hid (w5.ownsRow w0.heap.size TStr 1 (.slice A4 n4 c4) n4 (wcells (yss ++ wordsL (ks.take (j + 1))))) := by show World.ownsRow _ _ _ _ _ _ _; rw [HT.out, ← List.append_assoc]; exact o4
        have HB4 := Lib.hid b4
        clear c0 c1 c2 h4 o4 b4 HNL
        go_wp2_with fail
        go_roundg (gk - 1)
        case measure => omega
        case rel => exact ⟨j + 1, by omega, by go_num, A4, n4, c4, rfl, HN4, HO4, HB4⟩
      · have hj' : j = ks.length := by omega
        subst hj'
        rw [List.take_length] at HO HN
        go_wp2_with fail
        go_ret
        refine ⟨A3, n3, c3, rfl, ?_, ?_, HB.out⟩
        · rw [HN.out, HY.out]
        · rw [← HY.out]; exact HO.out

end Go.Proofs.YtlchipjckgaclaaDoor
