/- Texts joined for the claims: C0 N1 N2 C1 Ap. -/
import Derived.Test.YtlchipjckgaclaaDoorG5
import Derived.Test.YtlchipjckgaclaaDoorG2
import Derived.Test.YtlchipjckgaclaaDoorG4
import Derived.Deep.RegionHeld3
import Derived.Deep.DeepCutAuto
import Derived.Test.YtlchipjckgaclaaDoorG3
import Derived.Maps.AppendAt
import Derived.Deep.AppendLies
import Derived.Deep.RegionLaw
/- Copies of trees: what their statements leave. -/
namespace Go.Proofs.YtlchipjckgaclaaDoor
set_option linter.unusedSimpArgs false
set_option linter.unusedVariables false
set_option maxRecDepth 100000
open Go.RowKit

/-- a row of trees, as cells -/
structure KRow (w : World) (lo : Nat) (K : Option Addr) (ks : List Rex) (cs : List Value) : Prop where
  row : Row w lo K cs
  len : cs.length = ks.length * 3
  one : ∀ u ∈ cs, u.oneCell' = true
  each : ∀ (i : Nat) (r : Rex), ks[i]? = some r → ∃ v1 v2, cs[i * 3]? = some (.int .i64 r.kind) ∧ cs[i * 3 + 1]? = some v1 ∧ cs[i * 3 + 2]? = some v2 ∧ RexV w lo r (.int .i64 r.kind) v1 v2
theorem KCell.succ {w : World} {lo : Nat} {K : Option Addr} {i : Nat} {u0 u1 u2 : Value} (h : KCell w lo K i u0 u1 u2) : ∃ a, K = some a ∧ lo ≤ a.block ∧ w.cell? (a.add (i * 3)) = some u0 ∧ w.cell? (a.add (i * 3 + 1)) = some u1 ∧ w.cell? (a.add (i * 3 + 2)) = some u2 := by
  obtain ⟨a, e, hl, h0, h1, h2⟩ := h.ex
  exact ⟨a, e, hl, h0, by rw [add_field _ _ 1 (by omega)]; exact h1, by rw [add_field _ _ 2 (by omega)]; exact h2⟩
def threes (f : Nat → Value × Value × Value) : Nat → List Value
  | 0 => []
  | n + 1 => threes f n ++ [(f n).1, (f n).2.1, (f n).2.2]
theorem threes_length (f : Nat → Value × Value × Value) : ∀ n, (threes f n).length = n * 3
  | 0 => rfl
  | n + 1 => by rw [threes, List.length_append, threes_length f n]; simp; omega
theorem threes_get (f : Nat → Value × Value × Value) : ∀ n i, i < n → (threes f n)[i * 3]? = some (f i).1 ∧ (threes f n)[i * 3 + 1]? = some (f i).2.1 ∧ (threes f n)[i * 3 + 2]? = some (f i).2.2
  | 0, i, h => absurd h (Nat.not_lt_zero _)
  | n + 1, i, h => by
    have hl := threes_length f n
    rw [threes]
    by_cases e : i = n
    · subst e
      refine ⟨?_, ?_, ?_⟩
      · rw [List.getElem?_append_right (by omega), hl]; simp
      · rw [List.getElem?_append_right (by omega), hl, show i * 3 + 1 - i * 3 = 1 by omega]; simp
      · rw [List.getElem?_append_right (by omega), hl, show i * 3 + 2 - i * 3 = 2 by omega]; simp
    · have := threes_get f n i (by omega)
      rw [List.getElem?_append_left (by omega), List.getElem?_append_left (by omega), List.getElem?_append_left (by omega)]
      exact this
theorem threes_mem (f : Nat → Value × Value × Value) : ∀ n u, u ∈ threes f n → ∃ i, i < n ∧ (u = (f i).1 ∨ u = (f i).2.1 ∨ u = (f i).2.2)
  | 0, u, h => by simp [threes] at h
  | n + 1, u, h => by
    rw [threes, List.mem_append] at h
    rcases h with h | h
    · obtain ⟨i, hi, e⟩ := threes_mem f n u h
      exact ⟨i, by omega, e⟩
    · simp at h
      exact ⟨n, by omega, h⟩
theorem Kids.krow {w : World} {lo : Nat} {K : Option Addr} {ck : Nat} {ks : List Rex} (h : Kids w lo K ck ks) : ∃ cs, KRow w lo K ks cs := by
  obtain ⟨⟨V0, V1, V2, hc, hr⟩, _, _⟩ := h
  refine ⟨threes (fun i => (V0 i, V1 i, V2 i)) ks.length, ?_, threes_length _ _, fun u hu => ?_, fun i r hi => ?_⟩
  · by_cases h0 : ks.length = 0
    · rw [h0]; exact .inl rfl
    · obtain ⟨a, rfl, hl, _⟩ := (hc 0 (by omega)).succ
      refine .inr ⟨a, rfl, hl, fun j u hj => ?_⟩
      have hjl : j < ks.length * 3 := by rw [← threes_length (fun i => (V0 i, V1 i, V2 i)) ks.length]; exact (List.getElem?_eq_some_iff.1 hj).1
      obtain ⟨i, t, ht, rfl⟩ : ∃ i t, t < 3 ∧ j = i * 3 + t := ⟨j / 3, j % 3, Nat.mod_lt _ (by omega), by omega⟩
      have hi : i < ks.length := by omega
      obtain ⟨a', e, _, c0, c1, c2⟩ := (hc i hi).succ
      injection e with e
      subst e
      obtain ⟨g0, g1, g2⟩ := threes_get (fun i => (V0 i, V1 i, V2 i)) ks.length i hi
      match t, ht with
      | 0, _ => rw [Nat.add_zero] at hj ⊢; rw [g0] at hj; injection hj with hj; subst hj; exact c0
      | 1, _ => rw [g1] at hj; injection hj with hj; subst hj; exact c1
      | 2, _ => rw [g2] at hj; injection hj with hj; subst hj; exact c2
  · obtain ⟨i, hi, e⟩ := threes_mem _ _ _ hu
    have hv := (hr i (ks[i]) (List.getElem?_eq_getElem hi)).one
    rcases e with e | e | e
    · exact hv u (by simp [e])
    · exact hv u (by simp [e])
    · exact hv u (by simp [e])
  · have hi' := (List.getElem?_eq_some_iff.1 hi).1
    have hv := hr i r hi
    obtain ⟨_, _, _, _, e0, _⟩ := hv.parts
    obtain ⟨g0, g1, g2⟩ := threes_get (fun i => (V0 i, V1 i, V2 i)) ks.length i hi'
    dsimp only at g0 g1 g2
    rw [e0] at g0 hv
    exact ⟨V1 i, V2 i, g0, g1, g2, hv⟩

def CopyPost (k : Int) (s : List Sp) (ks : List Rex) (w : World) (e : Ending) (w' : World) : Prop := ∃ u1 u2 fp, e = .returned (.agg #[.int .i64 k, u1, u2]) ∧ OwnT w' fp (.mk k s ks) u1 u2 ∧ fp.Nodup ∧ (∀ b, b ∈ fp → w.heap.size ≤ b) ∧ Below w.heap.size w w'
def CopyOk (r : Rex) : Prop := ∀ (v1 v2 : Value) (w : World) (lo : Nat), RexV w lo r (.int .i64 r.kind) v1 v2 → r.size ≤ 1073741824 →
  Calls Tryd.prog 74 #[.agg #[.int .i64 r.kind, v1, v2]] w (CopyPost r.kind r.set r.kids w)

/-- what the first statement leaves -/
structure CopyMid (wb wx : World) (g : Nat) (k : Int) (s : List Sp) (n : Nat) (cs : List Value) (vS vK : Value) : Prop where
  blk : Blk wx g #[.int .i64 k, vS, vK] TRx
  set : OwnSp wx wb.heap.size vS s
  row : wx.ownsRow wb.heap.size TRx 3 vK n cs
  bel : Below wb.heap.size wb wx
  gS : g ∉ vblk vS
  gK : g ∉ vblk vK
  gl : wb.heap.size ≤ g
  dj : ∀ b, b ∈ vblk vS → b ∈ vblk vK → False
def CopyMidP (wb : World) (k : Int) (s : List Sp) (n : Nat) (cs : List Value) (v : Value) (wx : World) : Prop := ∃ g vS vK, v = .pointer (some ⟨g, 0, none⟩) ∧ CopyMid wb wx g k s n cs vS vK

abbrev Z0 : Obj := .cells #[.int .i64 0, nilS, nilS] TRx (0, 0)
theorem own_re {w : World} {base base' n size : Nat} {e : TypeId} {v : Value} {cs : List Value} (h : w.ownsRow base e size v n cs) (hb : ∀ b, b ∈ vblk v → base' ≤ b) : w.ownsRow base' e size v n cs := by
  obtain ⟨h1, h2⟩ := h
  refine ⟨h1, h2.imp id ?_⟩
  rintro ⟨g, cap, cur, rfl, hg, r⟩
  exact ⟨g, cap, cur, rfl, hb g (by simp [vblk_some]), r⟩
theorem own_vlt {w : World} {base n size : Nat} {e : TypeId} {v : Value} {cs : List Value} (h : w.ownsRow base e size v n cs) : ∀ b, b ∈ vblk v → base ≤ b ∧ b < w.heap.size := fun b hb => h.lt b (mem_vblk.1 hb)
theorem mid_of {wa wX : World} {g : Nat} {k : Int} {s : List Sp} {n : Nat} {cs : List Value} {vS vK : Value} {lS lK : Nat} (hl : s.length ≤ maxN) (hB : Blk wX g #[.int .i64 k, vS, vK] TRx) (hS : wX.ownsRow lS TSp 2 vS s.length (spcs s)) (hK : wX.ownsRow lK TRx 3 vK n cs)
    (hb : Below wa.heap.size wa wX) (gl : wa.heap.size ≤ g) (bS : ∀ b, b ∈ vblk vS → wa.heap.size ≤ b ∧ b ≠ g) (bK : ∀ b, b ∈ vblk vK → wa.heap.size ≤ b ∧ b ≠ g) (dj : ∀ b, b ∈ vblk vS → b ∈ vblk vK → False) : CopyMidP wa k s n cs (.pointer (some ⟨g, 0, none⟩)) wX :=
  ⟨g, vS, vK, rfl, hB, ⟨own_re hS fun b h => (bS b h).1, hl⟩, own_re hK fun b h => (bK b h).1, hb, fun h => (bS g h).2 rfl, fun h => (bK g h).2 rfl, gl, dj⟩
theorem mid1 {wa wA wB : World} {k : Int} {s : List Sp} {n : Nat} {cs : List Value} {vS vK : Value} (hl : s.length ≤ maxN) (OS : wA.ownsRow wa.drew.heap.size TSp 2 vS s.length (spcs s)) (BS : Below wa.drew.heap.size wa.drew wA) (OK : wB.ownsRow wA.heap.size TRx 3 vK n cs) (BK : Below wA.heap.size wA wB) :
    CopyMidP wa k s n cs (.pointer (some ⟨wB.heap.size, 0, none⟩)) (wB.alloc (.cells #[.int .i64 k, vS, vK] TRx (0, 0))) := by
  have s1 : wa.heap.size ≤ wA.heap.size := BS.size
  have s2 := BK.size
  have e1 := own_vlt OS
  have e2 := own_vlt OK
  have e3 : ∀ b, b ∈ vblk vS → wa.heap.size ≤ b := fun b h => (e1 b h).1
  refine mid_of hl (blk_new _ _ _) (own_below (own_below OS BK) (below_alloc (Below.refl _ _) _)) (own_below OK (below_alloc (Below.refl _ _) _)) (below_alloc (below_then (below_drew (Below.refl wa.heap.size wa)) (below_then BS BK)) _) (by omega) (fun b h => ?_) (fun b h => ?_) (fun b h h' => ?_)
  · have := e1 b h; have := e3 b h; omega
  · have := e2 b h; omega
  · have := e1 b h; have := e2 b h'; omega
theorem mid2 {wa wA wB : World} {k : Int} {s : List Sp} {n : Nat} {cs : List Value} {vS vK : Value} (hl : s.length ≤ maxN) (OS : wA.ownsRow wa.drew.heap.size TSp 2 vS s.length (spcs s)) (BS : Below wa.drew.heap.size wa.drew wA) (OK : wB.ownsRow (wA.alloc Z0).heap.size TRx 3 vK n cs) (BK : Below (wA.alloc Z0).heap.size (wA.alloc Z0) wB) :
    CopyMidP wa k s n cs (.pointer (some ⟨wA.heap.size, 0, none⟩)) (((wB.setCell ⟨wA.heap.size, 0, none⟩ (.int .i64 k)).setCell ⟨wA.heap.size, 1, none⟩ vS).setCell ⟨wA.heap.size, 2, none⟩ vK) := by
  have s1 : wa.heap.size ≤ wA.heap.size := BS.size
  have s2 := BK.size
  have s3 : (wA.alloc Z0).heap.size = wA.heap.size + 1 := by simp
  have e1 := own_vlt OS
  have e2 := own_vlt OK
  have e3 : ∀ b, b ∈ vblk vS → wa.heap.size ≤ b := fun b h => (e1 b h).1
  have hZ : Blk wB wA.heap.size #[.int .i64 0, nilS, nilS] TRx := (blk_new wA _ _).below BK
  have far : ∀ b, b ≠ wA.heap.size → (((wB.setCell ⟨wA.heap.size, 0, none⟩ (.int .i64 k)).setCell ⟨wA.heap.size, 1, none⟩ vS).setCell ⟨wA.heap.size, 2, none⟩ vK).heap[b]? = wB.heap[b]? := fun b hb =>
    (Below.heap_setCell _ _ _ _ hb).trans ((Below.heap_setCell _ _ _ _ hb).trans (Below.heap_setCell _ _ _ _ hb))
  have OS2 := own_below (own_below OS (below_alloc (Below.refl _ _) Z0)) BK
  refine mid_of hl (by simpa using ((hZ.set 0 (.int .i64 k)).set 1 vS).set 2 vK) (own_move OS2 fun b h => far b ?_) (own_move OK fun b h => far b ?_)
    (below_set (below_set (below_set (below_then (below_drew (Below.refl wa.heap.size wa)) (below_then BS (below_then (below_alloc (Below.refl _ _) _) BK))) s1 _) s1 _) s1 _) s1 (fun b h => ?_) (fun b h => ?_) (fun b h h' => ?_)
  · have := e1 b (mem_vblk.2 h); omega
  · have := e2 b (mem_vblk.2 h); omega
  · have := e1 b h; have := e3 b h; omega
  · have := e2 b h; omega
  · have := e1 b h; have := e2 b h'; omega
theorem mid3 {wa wA wB : World} {k : Int} {s : List Sp} {n : Nat} {cs : List Value} {vS vK : Value} (hl : s.length ≤ maxN) (OS : wA.ownsRow (wa.alloc Z0).drew.heap.size TSp 2 vS s.length (spcs s)) (BS : Below (wa.alloc Z0).drew.heap.size (wa.alloc Z0).drew wA) (OK : wB.ownsRow wA.heap.size TRx 3 vK n cs) (BK : Below wA.heap.size wA wB) :
    CopyMidP wa k s n cs (.pointer (some ⟨wa.heap.size, 0, none⟩)) (((wB.setCell ⟨wa.heap.size, 0, none⟩ (.int .i64 k)).setCell ⟨wa.heap.size, 1, none⟩ vS).setCell ⟨wa.heap.size, 2, none⟩ vK) := by
  have s0 : (wa.alloc Z0).drew.heap.size = wa.heap.size + 1 := by simp
  have s1 := BS.size
  have s2 := BK.size
  have e1 := own_vlt OS
  have e2 := own_vlt OK
  have hZ : Blk wB wa.heap.size #[.int .i64 0, nilS, nilS] TRx := ((show Blk (wa.alloc Z0).drew wa.heap.size #[.int .i64 0, nilS, nilS] TRx from ⟨(blk_new wa _ _).eq⟩).below BS).below BK
  have far : ∀ b, b ≠ wa.heap.size → (((wB.setCell ⟨wa.heap.size, 0, none⟩ (.int .i64 k)).setCell ⟨wa.heap.size, 1, none⟩ vS).setCell ⟨wa.heap.size, 2, none⟩ vK).heap[b]? = wB.heap[b]? := fun b hb =>
    (Below.heap_setCell _ _ _ _ hb).trans ((Below.heap_setCell _ _ _ _ hb).trans (Below.heap_setCell _ _ _ _ hb))
  refine mid_of hl (by simpa using ((hZ.set 0 (.int .i64 k)).set 1 vS).set 2 vK) (own_move (own_below OS BK) fun b h => far b ?_) (own_move OK fun b h => far b ?_)
    (below_set (below_set (below_set (below_then (below_drew (below_alloc (Below.refl wa.heap.size wa) Z0)) (below_then BS BK)) (Nat.le_refl _) _) (Nat.le_refl _) _) (Nat.le_refl _) _) (Nat.le_refl _) (fun b h => ?_) (fun b h => ?_) (fun b h h' => ?_)
  · have := e1 b (mem_vblk.2 h); omega
  · have := e2 b (mem_vblk.2 h); omega
  · have := e1 b h; omega
  · have := e2 b h; omega
  · have := e1 b h; have := e2 b h'; omega

theorem three_one (k : Int) (A K : Option Addr) (n m c d : Nat) : ∀ u ∈ [Value.int .i64 k, .slice A n c, .slice K m d], u.oneCell' = true := by
  intro u hu
  simp at hu
  rcases hu with rfl | rfl | rfl <;> rfl
theorem copy_fin {w wa wr w5 : World} {k : Int} {s : List Sp} {ks : List Rex} {vS vK : Value} {fk : List Nat} {L : List KInfo} (hz : w.heap.size + 1 < wa.heap.size) (HB : Below w.heap.size w wa) (HOS : OwnSp wr wa.heap.size vS s) (HOK : OwnK wr fk ks vK L) (HBE : Below wa.heap.size wa wr)
    (HFK : ∀ b, b ∈ fk → wa.heap.size ≤ b ∧ b ∉ vblk vS) (HG : wr.grownBy w5 (some (w.heap.size + 1))) : CopyPost k s ks w (.returned (.agg #[.int .i64 k, vS, vK])) w5 := by
  have hfr : ∀ b, b < wr.heap.size → b ≠ w.heap.size + 1 → w5.heap[b]? = wr.heap[b]? := fun b hb hne => HG.block b hb fun e => by injection e with e; exact hne e
  have nd : (vblk vS ++ fk).Nodup := by
    refine List.nodup_append.2 ⟨?_, HOK.nd, fun a ha b hb e => (HFK b hb).2 (e ▸ ha)⟩
    unfold vblk; split <;> simp
  have hlo : ∀ b, b ∈ vblk vS ++ fk → wa.heap.size ≤ b := fun b hb => by
    rcases List.mem_append.1 hb with hb | hb
    · exact (HOS.lt b hb).1
    · exact (HFK b hb).1
  refine ⟨vS, vK, vblk vS ++ fk, rfl, ?_, nd, fun b hb => by have := hlo b hb; omega, (below_then HB HBE).grown HG (Nat.le_trans HB.size HBE.size) (fun q hq => by injection hq with hq; omega)⟩
  refine (OwnT.of (k := k) (HOS.lower (Nat.zero_le _)) HOK nd).stay fun b hb => ?_
  have hT := (OwnT.of (k := k) (HOS.lower (Nat.zero_le _)) HOK nd).lt b hb
  exact hfr b hT (by have := hlo b hb; omega)

theorem splice_set (cur : Array Value) (j : Nat) (a b c : Value) (h : j * 3 + 3 ≤ cur.size) :
    ((cur.setIfInBounds (j * 3) a).setIfInBounds (j * 3 + 1) b).setIfInBounds (j * 3 + 2) c = (cur.toList.take (j * 3) ++ [a, b, c] ++ cur.toList.drop (j * 3 + 3)).toArray := by
  obtain ⟨l⟩ := cur
  simp only [List.setIfInBounds_toArray, List.size_toArray] at h ⊢
  congr 1
  apply List.ext_getElem?
  intro t
  have hl : (l.take (j * 3)).length = j * 3 := by rw [List.length_take]; omega
  rw [List.getElem?_set, List.getElem?_set, List.getElem?_set, List.append_assoc]
  simp only [List.length_set]
  by_cases h0 : t < j * 3
  · rw [if_neg (by omega), if_neg (by omega), if_neg (by omega), List.getElem?_append_left (by omega), List.getElem?_take, if_pos h0]
  · rw [List.getElem?_append_right (by omega), hl]
    by_cases h1 : t < j * 3 + 3
    · obtain ⟨d, rfl⟩ : ∃ d, t = j * 3 + d := ⟨t - j * 3, by omega⟩
      rw [show j * 3 + d - j * 3 = d by omega]
      match d, (show d < 3 by omega) with
      | 0, _ => rw [if_neg (by omega), if_neg (by omega), if_pos (by omega), if_pos (by omega)]; rfl
      | 1, _ => rw [if_neg (by omega), if_pos rfl, if_pos (by omega)]; rfl
      | 2, _ => rw [if_pos rfl, if_pos (by omega)]; rfl
    · rw [if_neg (by omega), if_neg (by omega), if_neg (by omega), List.getElem?_append_right (by simp; omega), List.getElem?_drop]
      congr 1
      simp
      omega
theorem splice_ge (l : List Value) (a b c : Value) (j t : Nat) (h : j * 3 + 3 ≤ l.length) (ht : (j + 1) * 3 ≤ t) : (l.take (j * 3) ++ [a, b, c] ++ l.drop (j * 3 + 3)).toArray[t]? = l[t]? := by
  have hl : (l.take (j * 3) ++ [a, b, c]).length = j * 3 + 3 := by simp only [List.length_append, List.length_take, List.length_cons, List.length_nil]; omega
  rw [List.getElem?_toArray, List.getElem?_append_right (by omega), hl, List.getElem?_drop]
  congr 1
  omega
theorem copy_round {wr wD : World} {gK lo cap j n : Nat} {cur : Array Value} {ks : List Rex} {L : List KInfo} {r : Rex} {fp : List Nat} {v1 v2 : Value} {cs : List Value} (HX : KPart wr gK lo cap cur ks j L) (HR : ks[j]? = some r) (b2 : Below wr.heap.size wr wD) (HO : OwnT wD fp r v1 v2) (HF : ∀ b, b ∈ fp → wr.heap.size ≤ b) (HN : fp.Nodup)
    (hlo : lo ≤ wr.heap.size) (HT : ∀ t, j * 3 ≤ t → t < ks.length * 3 → cur[t]? = cs[t]?) :
    ∃ cur', KPart (((wD.setCell ⟨gK, j * 3, none⟩ (.int .i64 r.kind)).setCell ⟨gK, j * 3 + 1, none⟩ v1).setCell ⟨gK, j * 3 + 2, none⟩ v2) gK lo cap cur' ks (j + 1) (L ++ [⟨fp, v1, v2⟩]) ∧ ∀ t, (j + 1) * 3 ≤ t → t < ks.length * 3 → cur'[t]? = cs[t]? := by
  have hj := (List.getElem?_eq_some_iff.1 HR).1
  have hsz := HX.size
  have hcn := HX.capn
  have hX5 : Blk (((wD.setCell ⟨gK, j * 3, none⟩ (.int .i64 r.kind)).setCell ⟨gK, j * 3 + 1, none⟩ v1).setCell ⟨gK, j * 3 + 2, none⟩ v2) gK (cur.toList.take (j * 3) ++ [.int .i64 r.kind, v1, v2] ++ cur.toList.drop (j * 3 + 3)).toArray TRx := by
    rw [← splice_set cur j _ _ _ (by omega)]
    exact (((HX.blk.below b2).set _ _).set _ _).set _ _
  refine ⟨_, HX.snoc HR b2 HO HF HN hX5 (grown_set (grown_set (grown_set (grown_refl _ _) _ _) _ _) _ _) hlo, fun t h1 h2 => ?_⟩
  rw [splice_ge _ _ _ _ _ _ (by rw [Array.length_toList]; omega) h1, Array.getElem?_toList]
  exact HT t (by omega) h2

end Go.Proofs.YtlchipjckgaclaaDoor

/- normNot, normStar, of the program and of the reference. -/
namespace Go.Proofs.YtlchipjckgaclaaDoor
set_option linter.unusedSimpArgs false
set_option linter.unusedVariables false
set_option maxRecDepth 100000
open Go.RowKit

def isNo (r : Rex) : Bool := decide (r.kind = 1) && r.set.isEmpty
theorem isNo_iff (r : Rex) : isNo r = true ↔ r.kind = 1 ∧ r.set = [] := by simp [isNo]
def kid0 (r : Rex) : Rex := r.kids.getD 0 default
def nNot (r : Rex) : Rex := if r.kind = 7 then kid0 r else .mk 7 [] [r]
def nStar (r : Rex) : Rex := if r.kind = 5 then r else if r.kind = 2 ∨ isNo r = true then .mk 2 [] [] else .mk 5 [] [r]

end Go.Proofs.YtlchipjckgaclaaDoor

/- normStar, of the program and of the reference; given, l4Deep. -/
namespace Go.Proofs.YtlchipjckgaclaaDoor
set_option linter.unusedSimpArgs false
set_option linter.unusedVariables false
set_option maxRecDepth 100000
open Go.RowKit

end Go.Proofs.YtlchipjckgaclaaDoor

/- rexCopy: a tree in new memory. -/
namespace Go.Proofs.YtlchipjckgaclaaDoor
set_option linter.unusedSimpArgs false
set_option linter.unusedVariables false
set_option maxRecDepth 100000
open Go.RowKit

set_option maxHeartbeats 4000000 in
theorem rexCopy_c (r : Rex) : CopyOk r := by
  refine Rex.ind (p := CopyOk) (fun k s ks ih => ?_) r
  intro v1 v2 w lo h hsz
  obtain ⟨A, c, K, ck, _, rfl, rfl, hs, hk⟩ := h.parts
  dsimp only [Rex.kind, Rex.set, Rex.kids] at hs hk ⊢
  rw [Rex.size] at hsz
  clear h
  obtain ⟨wa, hwa⟩ : ∃ x, x = (w.alloc (.cells #[.int .i64 k, .slice A s.length c, .slice K ks.length ck] TRx)).alloc (.cells #[.int .i64 0, nilS, nilS] TRx) := ⟨_, rfl⟩
  have hb : Below w.heap.size w wa := by rw [hwa]; exact below_alloc (below_alloc (Below.refl _ _) _) _
  have m0 : Blk wa w.heap.size #[.int .i64 k, .slice A s.length c, .slice K ks.length ck] TRx := by rw [hwa]; exact (blk_new w _ _).alloc _
  have m1 : Blk wa (w.heap.size + 1) #[.int .i64 0, nilS, nilS] TRx := by
    rw [hwa]
    have := blk_new (w.alloc (.cells #[.int .i64 k, .slice A s.length c, .slice K ks.length ck] TRx)) #[.int .i64 0, nilS, nilS] TRx
    simpa using this
  have hz1 : w.heap.size + 1 < wa.heap.size := m1.lt
  replace hwa := hwa.symm
  obtain ⟨cs, hcs⟩ := (hk.below hb).krow
  have HB := Lib.hid hb
  have M0 := Lib.hid m0
  have M1 := Lib.hid m1
  have HS := Lib.hid (hs.below hb)
  have HC := Lib.hid hcs
  clear hb m0 m1 hs hk hcs
  have HM : Hid (∀ w', Below wa.heap.size wa w' → w'.cell? ⟨w.heap.size, 0, none⟩ = some (.int .i64 k) ∧ w'.cell? ⟨w.heap.size, 1, none⟩ = some (.slice A s.length c) ∧ w'.cell? ⟨w.heap.size, 2, none⟩ = some (.slice K ks.length ck)) := fun w' hb =>
    ⟨by rw [(M0.out.below hb).cell]; rfl, by rw [(M0.out.below hb).cell]; rfl, by rw [(M0.out.below hb).cell]; rfl⟩
  go_enter Tryd.func74, Tryd.ntmps74
  go_upto_region 1 with fail
  clear hwa
  go_cut [3] (fun s3 wx => CopyMidP wa k s ks.length cs s3 wx)
  case first =>
    go_region_held3 (fun w' => Below wa.heap.size wa w' ∧ w'.cell? ⟨w.heap.size, 0, none⟩ = some (.int .i64 k) ∧ w'.cell? ⟨w.heap.size, 1, none⟩ = some (.slice A s.length c) ∧ w'.cell? ⟨w.heap.size, 2, none⟩ = some (.slice K ks.length ck))
      ((refine (fun h => ⟨h, HM.out _ h⟩ : Below wa.heap.size wa _ → _) ?_; (repeat (first | exact BB.out | exact BA.out | exact Below.refl _ _ | exact below_drew (Below.refl _ _) | refine below_alloc ?_ _ | refine below_drew ?_ | refine below_set ?_ (by first | exact Nat.le_refl _ | exact BA.out.size | exact BB.out.size) _))))
      (first
        | (go_at_call 66; refine (copiedSpan_c A c s.length (spcs s) _ (HS.out.below (by first | exact below_drew (Below.refl _ _) | exact below_alloc (below_drew (Below.refl _ _)) _)).row (spcs_length _) (spcs_one _) (by omega)).mono ?_; rintro e wA ⟨vS, rfl, oS, bS⟩; obtain ⟨A1, c1, rfl, _, _⟩ := own_row oS; have BA : Hid (Below wa.heap.size wa wA) := below_then (by first | exact below_drew (Below.refl _ _) | exact below_alloc (below_drew (Below.refl _ _)) _) bS; have OS := Lib.hid oS; have BS := Lib.hid bS; (first | have ZA := Lib.hid ((show Blk (wa.drew.alloc (.cells #[.int .i64 0, nilS, nilS] TRx)) wa.heap.size #[.int .i64 0, nilS, nilS] TRx from blk_new wa.drew _ _).below bS) | skip); clear oS bS)
        | (go_at_call 92; refine (copiedRex_c K ck ks.length cs _ (HC.out.row.below (by first | exact BA.out | exact below_alloc BA.out _)) HC.out.len HC.out.one (by omega)).mono ?_; rintro e wB ⟨vK, rfl, oK, bK⟩; obtain ⟨K1, k1, rfl, _, _⟩ := own_row oK; have BB : Hid (Below wa.heap.size wa wB) := below_then (by first | exact BA.out | exact below_alloc BA.out _) bK; have OK := Lib.hid oK; have BK := Lib.hid bK; (first | have Z := ZA.out.below bK | have Z := (blk_new wA #[.int .i64 0, nilS, nilS] TRx).below bK | skip); (first | (have z0 := (Z.cell 0).trans rfl; have z1 := (Z.cell 1).trans rfl; have z2 := (Z.cell 2).trans rfl; have f0 := Z.free 0; have f1 := Z.free 1; have f2 := Z.free 2; have HZ := Lib.hid Z; clear Z) | skip); clear oK bK))
    all_goals
      go_wp2_with fail
      go_meet
      first | exact mid1 HS.out.len OS.out BS.out OK.out BK.out | exact mid2 HS.out.len OS.out BS.out OK.out BK.out | exact mid3 HS.out.len OS.out BS.out OK.out BK.out
  case rest =>
    obtain ⟨g, vS, vK, rfl, hm⟩ := hcut
    have hgl := hm.gl
    have HM1 := Lib.hid (M1.out.below hm.bel)
    have CM := Lib.hid hm
    obtain ⟨A1, c1, eS, _⟩ := hm.set.sps
    obtain ⟨K1, k1, eK, _, _⟩ := own_row hm.row
    subst eS eK
    have n2 : wc.cell? ⟨g, 2, none⟩ = some (.slice K1 ks.length k1) := by rw [hm.blk.cell]; rfl
    have hlen : ks.length ≤ 1073741824 := by omega
    clear hm M0 HM HS
    by_cases h0 : ks = []
    · subst h0
      have hrow := CM.out.row
      have ecs : cs = [] := by have := HC.out.len; simpa using this
      rw [ecs] at hrow
      have HOK : Hid (OwnK wc (vblk (.slice K1 ([] : List Rex).length k1)) [] (.slice K1 ([] : List Rex).length k1) []) := ⟨rfl, own_lower hrow (Nat.zero_le _), by simp, fun i r x h => by simp at h, by simp [fps], by unfold vblk; split <;> simp⟩
      have HFK : Hid (∀ b, b ∈ vblk (.slice K1 ([] : List Rex).length k1) → wa.heap.size ≤ b ∧ b ∉ vblk (.slice A1 s.length c1)) := fun b hb => ⟨(own_vlt hrow b hb).1, fun h => CM.out.dj b h hb⟩
      have HBG := Lib.hid CM.out.blk
      have HOS := Lib.hid CM.out.set
      have HBE := Lib.hid CM.out.bel
      clear hrow CM ecs
      simp only [List.length_nil] at n2 HBG HOK HFK ⊢
      go_wp2_with fail
      go_loopg [17] 0 (fun n i wr => n = 0 ∧ i = .int .i64 0 ∧ wr = wc)
      case atStart => exact ⟨rfl, rfl, rfl⟩
      case round =>
        obtain ⟨_, rfl, rfl⟩ := hrel
        go_wp2_with (first
          | (refine ev_load (o := ⟨some 31, _, _, _, _, _⟩) rfl TRx _ rfl g rfl [.int .i64 k, .slice A1 s.length c1, (.slice K1 0 k1)] TRx HBG.out _ Tryd.underlying36 rfl (sizeRx' _ _ _) ?_)
          | (refine ev_store (o := ⟨none, .store _ (.tmp 2) _, _, _, _, _⟩) rfl rfl TRx (.tmp 2) (.tmp 31) rfl (w.heap.size + 1) 0 rfl [.int .i64 k, .slice A1 s.length c1, (.slice K1 0 k1)] rfl _ TRx HM1.out (sizeRx' _ _ _) (by show 0 + 3 ≤ 3; omega) (three_one _ _ _ _ _ _ _) ?_; intro w5 hX5 hg5; have HX5 : Hid (Blk w5 (w.heap.size + 1) #[.int .i64 k, .slice A1 s.length c1, (.slice K1 0 k1)] TRx) := hX5; have HG5 := Lib.hid hg5; clear hX5 hg5))
        have hz : w.heap.size + 1 < wa.heap.size := hz1
        refine bodyPost_ret (results_cell_row rfl _ _ (w.heap.size + 1) TRx _ (0, 0) _ rfl HX5.out.eq Tryd.underlying36 rfl (by rw [sizeRx]; rfl)) rfl ?_
        exact copy_fin hz HB.out HOS.out HOK.out HBE.out HFK.out HG5.out
    · have hpos : 0 < ks.length := List.length_pos_iff.2 h0
      clear h0
      obtain ⟨gK, capK, eK2, hgK, _⟩ := own_form CM.out.row hpos
      injection eK2 with e1 e2 e3
      subst e1 e3
      obtain ⟨cur, hBK, hcsz, hcap, _, hcm, htk⟩ := own_blk CM.out.row
      have hgKc : gK < wc.heap.size := hBK.lt
      have hgc : g < wc.heap.size := CM.out.blk.lt
      have HX := Lib.hid (KPart.first (ks := ks) hBK hcsz hcap hcm hgK)
      have HT : Hid (∀ t, 0 * 3 ≤ t → t < ks.length * 3 → cur[t]? = cs[t]?) := fun t _ ht => by
        rw [← htk, List.getElem?_take, if_pos ht, Array.getElem?_toList]
      have HBG := Lib.hid CM.out.blk
      have HOS := Lib.hid CM.out.set
      have HBE := Lib.hid CM.out.bel
      have HVS : Hid (∀ b, b ∈ vblk (.slice A1 s.length c1) → b < wc.heap.size) := fun b hb => (CM.out.set.lt b hb).2
      have HDJ := Lib.hid CM.out.dj
      have HGK : Hid (gK ≠ g) := fun e => CM.out.gK (by rw [e]; simp [vblk_some])
      have HGV : Hid (gK ∉ vblk (.slice A1 s.length c1)) := fun h => CM.out.dj gK h (by simp [vblk_some])
      have HGS := Lib.hid CM.out.gS
      clear CM hBK hcsz hcap hcm htk
      go_wp2_with fail
      go_loopg [17] (ks.length) (fun n i wr => ∃ j : Nat, j + n = ks.length ∧ i = .int .i64 j ∧ ∃ (cur : Array Value) (L : List KInfo), Hid (KPart wr gK wa.heap.size k1 cur ks j L) ∧ Hid (∀ t, j * 3 ≤ t → t < ks.length * 3 → cur[t]? = cs[t]?) ∧
        Hid (Blk wr g #[.int .i64 k, .slice A1 s.length c1, .slice (some ⟨gK, 0, none⟩) ks.length k1] TRx) ∧ Hid (OwnSp wr wa.heap.size (.slice A1 s.length c1) s) ∧ Hid (Below wa.heap.size wa wr) ∧ Hid (Blk wr (w.heap.size + 1) #[.int .i64 0, nilS, nilS] TRx) ∧ Hid (∀ b, b ∈ fps L → wc.heap.size ≤ b) ∧ Hid (wc.heap.size ≤ wr.heap.size))
      case atStart => exact ⟨0, by omega, rfl, cur, [], HX, HT, HBG, HOS, HBE, HM1, fun b hb => by simp [fps] at hb, Nat.le_refl _⟩
      case round =>
        clear HX HT HBG HOS HBE HM1 n2
        obtain ⟨j, hj, rfl, cur, L, HX, HT, HBG, HOS, HBE, HM1, HFL, HWZ⟩ := hrel
        have n2 : wr.cell? ⟨g, 2, none⟩ = some (.slice (some ⟨gK, 0, none⟩) ks.length k1) := by rw [HBG.out.cell]; rfl
        by_cases hlt : j < ks.length
        · obtain ⟨r, hr⟩ : ∃ r, ks[j]? = some r := ⟨ks[j], List.getElem?_eq_getElem hlt⟩
          obtain ⟨x1, x2, g0, g1, g2, hv⟩ := HC.out.each j r hr
          obtain ⟨A2, c2, K2, d2, _, rfl, rfl, _⟩ := hv.parts
          have hmem := List.mem_of_getElem? hr
          have hks := size_kid hmem
          rw [← HT.out (j * 3) (Nat.le_refl _) (by omega)] at g0
          rw [← HT.out (j * 3 + 1) (by omega) (by omega)] at g1
          rw [← HT.out (j * 3 + 2) (by omega) (by omega)] at g2
          have HR := Lib.hid hr
          have HV := Lib.hid (hv.under HBE.out)
          have HME : Hid (∀ w', Below wr.heap.size wr w' → w'.cell? ⟨g, 2, none⟩ = some (.slice (some ⟨gK, 0, none⟩) ks.length k1) ∧ w'.cell? ⟨gK, j * 3, none⟩ = some (.int .i64 r.kind) ∧ w'.cell? ⟨gK, j * 3 + 1, none⟩ = some (.slice A2 r.set.length c2) ∧ w'.cell? ⟨gK, j * 3 + 2, none⟩ = some (.slice K2 r.kids.length d2)) := fun w' hb =>
            ⟨by rw [(HBG.out.below hb).cell]; rfl, by rw [(HX.out.blk.below hb).cell]; exact g0, by rw [(HX.out.blk.below hb).cell]; exact g1, by rw [(HX.out.blk.below hb).cell]; exact g2⟩
          have i0 : (0 : Int) ≤ (j : Int) := by omega
          have i1 : (j : Int) < (ks.length : Int) := by omega
          clear hr hv g0 g1 g2
          go_wp2
          have z0 := (HME.out _ (Below.refl _ _)).2.1
          have z1 := (HME.out _ (Below.refl _ _)).2.2.1
          have z2 := (HME.out _ (Below.refl _ _)).2.2.2
          go_region_with (first
              | (go_at_call 74; refine (ih r hmem _ _ _ _ (HV.out.under (below_drew (Below.refl _ _))) (by omega)).mono ?_; rintro e wD ⟨u1, u2, fp, rfl, ho, hnd, hf, b3⟩; rw [← Rex.eta r] at ho; obtain ⟨L3, fk3, _, _, hos3, hok3⟩ := ho.parts; obtain ⟨A3, c3, rfl, _⟩ := hos3.sps; obtain ⟨K3, d3, rfl, _, _⟩ := own_row hok3.hk; clear hos3 hok3; have BD : Hid (Below wr.heap.size wr wD) := below_then (below_drew (Below.refl _ _)) b3; have HO := Lib.hid ho; have HND := Lib.hid hnd; have HF : Hid (∀ b, b ∈ fp → wr.heap.size ≤ b) := hf; clear ho hnd hf b3; have y2 := (HME.out _ BD.out).1; have y0 := (HME.out _ BD.out).2.1; have y1 := (HME.out _ BD.out).2.2.1; have y3 := (HME.out _ BD.out).2.2.2; have f0 := (HX.out.blk.below BD.out).free (j * 3); have f1 := (HX.out.blk.below BD.out).free (j * 3 + 1); have f2 := (HX.out.blk.below BD.out).free (j * 3 + 2)))
          all_goals
            clear y0 y1 y2 y3 f0 f1 f2 z0 z1 z2 n2 i0 i1
            go_wp2
            go_roundg (gk - 1)
            case rel =>
              have hs0 : wa.heap.size ≤ wr.heap.size := HBE.out.size
              obtain ⟨cur', hX', hT'⟩ := copy_round (n := 0) HX.out HR.out BD.out HO.out HF.out HND.out hs0 HT.out
              have hne : g ≠ gK := fun e => HGK.out e.symm
              refine ⟨j + 1, by omega, by go_num, cur', _, hX', hT', (((HBG.out.below BD.out).far hne _).far hne _).far hne _, (HOS.out.below BD.out).stay fun b hb => ?_, below_set (below_set (below_set (below_then HBE.out BD.out) hgK _) hgK _) hgK _, (((HM1.out.below BD.out).far (by show w.heap.size + 1 ≠ gK; omega) _).far (by show w.heap.size + 1 ≠ gK; omega) _).far (by show w.heap.size + 1 ≠ gK; omega) _, fun b hb => ?_, by show _ ≤ _; simp only [World.size_setCell]; exact Nat.le_trans HWZ.out BD.out.size⟩
              · have hb' : b ≠ gK := fun e => HGV.out (e ▸ hb)
                exact (Below.heap_setCell _ _ _ _ hb').trans ((Below.heap_setCell _ _ _ _ hb').trans (Below.heap_setCell _ _ _ _ hb'))
              · rw [fps_append] at hb
                rcases List.mem_append.1 hb with hb | hb
                · exact HFL.out b hb
                · exact Nat.le_trans HWZ.out (HF.out b (by simpa [fps] using hb))
            case measure => omega
        · have hj' : j = ks.length := by omega
          have HOK := Lib.hid (HX.out.done hj')
          have HFK : Hid (∀ b, b ∈ gK :: fps L → wa.heap.size ≤ b ∧ b ∉ vblk (.slice A1 s.length c1)) := fun b hb => by
            refine ⟨HX.out.lo b hb, fun h => ?_⟩
            rcases List.mem_cons.1 hb with e | hb
            · exact HGV.out (e ▸ h)
            · have h1 := HFL.out b hb
              have h2 := HVS.out b h
              omega
          clear hj' HT HX n2
          go_wp2_with (first
            | (refine ev_load (o := ⟨some 31, _, _, _, _, _⟩) rfl TRx _ rfl g rfl [.int .i64 k, .slice A1 s.length c1, (.slice (some ⟨gK, 0, none⟩) ks.length k1)] TRx HBG.out _ Tryd.underlying36 rfl (sizeRx' _ _ _) ?_)
            | (refine ev_store (o := ⟨none, .store _ (.tmp 2) _, _, _, _, _⟩) rfl rfl TRx (.tmp 2) (.tmp 31) rfl (w.heap.size + 1) 0 rfl [.int .i64 k, .slice A1 s.length c1, (.slice (some ⟨gK, 0, none⟩) ks.length k1)] rfl _ TRx HM1.out (sizeRx' _ _ _) (by show 0 + 3 ≤ 3; omega) (three_one _ _ _ _ _ _ _) ?_; intro w5 hX5 hg5; have HX5 : Hid (Blk w5 (w.heap.size + 1) #[.int .i64 k, .slice A1 s.length c1, (.slice (some ⟨gK, 0, none⟩) ks.length k1)] TRx) := hX5; have HG5 := Lib.hid hg5; clear hX5 hg5))
          have hz : w.heap.size + 1 < wa.heap.size := hz1
          refine bodyPost_ret (results_cell_row rfl _ _ (w.heap.size + 1) TRx _ (0, 0) _ rfl HX5.out.eq Tryd.underlying36 rfl (by rw [sizeRx]; rfl)) rfl ?_
          exact copy_fin hz HB.out HOS.out HOK.out HBE.out HFK.out HG5.out

end Go.Proofs.YtlchipjckgaclaaDoor

/- append, of a row that may be nil; laws for regions that draw their order. -/
namespace Go.Proofs.YtlchipjckgaclaaDoor
set_option linter.unusedSimpArgs false
set_option linter.unusedVariables false
set_option maxRecDepth 100000
open Go.RowKit

section
variable {P : Program} {w : World}
theorem run_append_row (base : Nat) (t ty e : TypeId) (i : TypeInfo) (z : Value) (size bytes : Nat) (ht : P.underlying t = some (.slice e)) (hi : P.info? e = some i) (hz : i.zero = some z)
    (hsize : i.size = size) (hby : i.bytes = bytes) (hzs : z.cells.size = size) (hsz : 0 < size)
    (v : Value) (n : Nat) (xs : List Value) (hown : w.ownsRow base e size v n xs)
    (A : Option Addr) (m c : Nat) (news : List Value) {lo : Nat} (hrow : Row w lo A news) (hl : news.length = m * size) (h1 : ∀ u ∈ news, u.oneCell' = true)
    (h63 : n + m ≤ maxLen) (hbytes : (n + m) * bytes ≤ 140737488355328) (hbase : base ≤ w.heap.size) :
    ∃ A' c' w', (Builtin.append_ #[t, t] ty #[v, .slice A m c]).run P w = .ok (.slice A' (n + m) c') w' ∧ w'.ownsRow base e size (.slice A' (n + m) c') (n + m) (xs ++ news) ∧ w.grownBy w' v.ownBlock ∧
      ∀ b, b ∈ vblk (.slice A' (n + m) c') → b ∈ vblk v ∨ b = w.heap.size := by
  cases A with
  | some ad =>
    have hcells : ∀ j u, news[j]? = some u → w.cell? (ad.add j) = some u := by
      rcases hrow with rfl | ⟨a, e', _, hc⟩
      · intro j u h; simp at h
      · injection e' with e'; subst e'; exact hc
    obtain ⟨v', w', hr, ho, hg, _, hb⟩ := run_append_own_at (P := P) w base t ty e i z size bytes ht hi hz hsize hby hzs hsz v n xs hown ad m c news hl hcells h1 h63 hbytes hbase
    obtain ⟨A', c', rfl, _⟩ := own_row ho
    refine ⟨A', c', w', hr, ho, hg, fun b h => ?_⟩
    rw [mem_vblk] at h
    rcases hb with hb | hb
    · exact .inl (mem_vblk.2 (hb ▸ h))
    · right; rw [hb] at h; injection h with h; exact h.symm
  | none =>
    have hn : news = [] := by
      rcases hrow with h | ⟨a, e', _⟩
      · exact h
      · cases e'
    subst hn
    have hm : m = 0 := by
      rcases Nat.eq_zero_or_pos m with h | h
      · exact h
      · exfalso
        have := Nat.mul_le_mul h (Nat.le_refl size)
        simp at hl
        omega
    subst hm
    obtain ⟨A', c', rfl, _⟩ := own_row hown
    refine ⟨A', c', w, ?_, by simpa using hown, ⟨rfl, rfl, rfl, Nat.le_refl _, fun _ _ _ => rfl⟩, fun b h => .inl h⟩
    rcases hown.2 with ⟨e1, rfl⟩ | ⟨g, cap, cur, e1, _, _, hnc, _⟩
    · injection e1 with e1 e2 e3
      subst e1 e3
      simp [Builtin.append_, run_underlying ht, sizeOf, typeInfo, hi, Builtin.lenOf, Builtin.firstCells]
    · injection e1 with e1 e2 e3
      subst e1 e3
      simp [Builtin.append_, run_underlying ht, sizeOf, typeInfo, hi, Builtin.lenOf, Builtin.firstCells, hnc, storeCells]

theorem wp_append_row {o : Oper} {a : Act} {K : Act → World → Prop} {Q : Exit → Act → World → Prop} (s x : Operand) (t : TypeId)
    (ho : o.op = .call { callee := .builtin .append, args := #[s, x], argTypes := #[t, t] })
    (base : Nat) (e : TypeId) (i : TypeInfo) (z : Value) (size bytes : Nat) (ht : P.underlying t = some (.slice e)) (hi : P.info? e = some i) (hz : i.zero = some z)
    (hsize : i.size = size) (hby : i.bytes = bytes) (hzs : z.cells.size = size) (hsz : 0 < size)
    (v : Value) (n : Nat) (xs : List Value) (hs : a.eval s = v) (hown : w.ownsRow base e size v n xs)
    (A : Option Addr) (m c : Nat) (news : List Value) (hx : a.eval x = .slice A m c) {lo : Nat} (hrow : Row w lo A news) (hl : news.length = m * size) (h1 : ∀ u ∈ news, u.oneCell' = true)
    (h63 : n + m ≤ maxLen) (hbytes : (n + m) * bytes ≤ 140737488355328) (hbase : base ≤ w.heap.size) (H : Nat) (hH : w.heap.size = H) (N : Nat) (hN : n + m = N)
    (h : ∀ A' c' w', w'.ownsRow base e size (.slice A' N c') N (xs ++ news) → w.grownBy w' v.ownBlock → (∀ b, b ∈ vblk (.slice A' N c') → b ∈ vblk v ∨ b = H) → K (a.put o.dst (.slice A' N c')) w') : o.wp P a w K Q := by
  obtain ⟨A', c', w', hr, h2, h3, h4⟩ := run_append_row (P := P) (w := w) base t o.type e i z size bytes ht hi hz hsize hby hzs hsz v n xs hown A m c news hrow hl h1 h63 hbytes hbase
  unfold Oper.wp execOp
  simp only [ho, resolve, invoke, builtin, Sem.run_bind, Sem.run_pure, Result.andThen_ok, List.map_toArray, List.map_cons, List.map_nil, hs, hx, hr]
  subst hN
  exact h A' c' w' h2 h3 (hH ▸ h4)
theorem wpList_append_row {ops : Array Oper} {rest : List Oper} {o : Oper} {a : Act} {Q : Exit → Act → World → Prop} (hgd : o.guard = none) (s x : Operand) (t : TypeId)
    (ho : o.op = .call { callee := .builtin .append, args := #[s, x], argTypes := #[t, t] })
    (base : Nat) (e : TypeId) (i : TypeInfo) (z : Value) (size bytes : Nat) (ht : P.underlying t = some (.slice e)) (hi : P.info? e = some i) (hz : i.zero = some z)
    (hsize : i.size = size) (hby : i.bytes = bytes) (hzs : z.cells.size = size) (hsz : 0 < size)
    (v : Value) (n : Nat) (xs : List Value) (hs : a.eval s = v) (hown : w.ownsRow base e size v n xs)
    (A : Option Addr) (m c : Nat) (news : List Value) (hx : a.eval x = .slice A m c) {lo : Nat} (hrow : Row w lo A news) (hl : news.length = m * size) (h1 : ∀ u ∈ news, u.oneCell' = true)
    (h63 : n + m ≤ maxLen) (hbytes : (n + m) * bytes ≤ 140737488355328) (hbase : base ≤ w.heap.size) (H : Nat) (hH : w.heap.size = H) (N : Nat) (hN : n + m = N)
    (h : ∀ A' c' w', w'.ownsRow base e size (.slice A' N c') N (xs ++ news) → w.grownBy w' v.ownBlock → (∀ b, b ∈ vblk (.slice A' N c') → b ∈ vblk v ∨ b = H) → wpList P ops Q rest (a.put o.dst (.slice A' N c')) w') : wpList P ops Q (o :: rest) a w :=
  wpList_plain hgd fun _ hK => wp_append_row s x t ho base e i z size bytes ht hi hz hsize hby hzs hsz v n xs hs hown A m c news hx hrow hl h1 h63 hbytes hbase H hH N hN fun A' c' w' h2 h3 h4 => hK _ _ (h A' c' w' h2 h3 h4)
theorem step_append_row {ops : Array Oper} {o : Oper} {a : Act} {K : Act → World → Prop} {Q : Exit → Act → World → Prop} {E : Prop} (hgd : o.guard = none) (s x : Operand) (t : TypeId)
    (ho : o.op = .call { callee := .builtin .append, args := #[s, x], argTypes := #[t, t] })
    (base : Nat) (e : TypeId) (i : TypeInfo) (z : Value) (size bytes : Nat) (ht : P.underlying t = some (.slice e)) (hi : P.info? e = some i) (hz : i.zero = some z)
    (hsize : i.size = size) (hby : i.bytes = bytes) (hzs : z.cells.size = size) (hsz : 0 < size)
    (v : Value) (n : Nat) (xs : List Value) (hs : a.eval s = v) (hown : w.ownsRow base e size v n xs)
    (A : Option Addr) (m c : Nat) (news : List Value) (hx : a.eval x = .slice A m c) {lo : Nat} (hrow : Row w lo A news) (hl : news.length = m * size) (h1 : ∀ u ∈ news, u.oneCell' = true)
    (h63 : n + m ≤ maxLen) (hbytes : (n + m) * bytes ≤ 140737488355328) (hbase : base ≤ w.heap.size) (H : Nat) (hH : w.heap.size = H) (N : Nat) (hN : n + m = N)
    (h : ∀ A' c' w', w'.ownsRow base e size (.slice A' N c') N (xs ++ news) → w.grownBy w' v.ownBlock → (∀ b, b ∈ vblk (.slice A' N c') → b ∈ vblk v ∨ b = H) → K (a.put o.dst (.slice A' N c')) w') :
    if Region.wanted o (yielded ops a.tmps) = true then Oper.wp P o a w K Q else E := by
  have hw : Region.wanted o (yielded ops a.tmps) = true := by simp [Region.wanted, hgd]
  rw [if_pos hw]
  exact wp_append_row s x t ho base e i z size bytes ht hi hz hsize hby hzs hsz v n xs hs hown A m c news hx hrow hl h1 h63 hbytes hbase H hH N hN h
/-- A call of a Go function, as one step of a region that draws. -/
theorem step_call {ops : Array Oper} {o : Oper} {a : Act} {K : Act → World → Prop} {Q : Exit → Act → World → Prop} {E : Prop} (hgd : o.guard = none) (f : FuncId) (xs : Array Operand) (ts : Array TypeId)
    (ho : o.op = .call { callee := .value (.func f), args := xs, argTypes := ts }) (fn : Func) (hf : P.funcs[f]? = some fn) (hname : (fn.name == "runtime.NumGoroutine") = false) (hb : fn.body.isNone = false)
    (vals : Array Value) (hv : xs.toList.map a.eval = vals.toList) {R : Value → World → Prop} (hc : Calls P f vals w fun e w' => ∃ v, e = .returned v ∧ R v w')
    (h : ∀ v w', R v w' → K (a.put o.dst v) w') : if Region.wanted o (yielded ops a.tmps) = true then Oper.wp P o a w K Q else E := by
  have hw : Region.wanted o (yielded ops a.tmps) = true := by simp [Region.wanted, hgd]
  rw [if_pos hw]
  have h1 : ¬ fn.name = "runtime.NumGoroutine" := by simpa using hname
  have h2 : ¬ fn.body = none := by cases hx : fn.body <;> simp_all
  have hrun : (execOp a.eval o).run P w = .ok (.enter f vals) w := by
    have hv' : xs.map a.eval = vals := Array.toList_inj.1 (by rw [Array.toList_map]; exact hv)
    rw [← hv']
    unfold execOp
    simp [ho, resolve, Deferred.ofValue, invoke, callFunc, hf, h1, h2, Act.eval]
  unfold Oper.wp
  rw [hrun, Oper.upon_enter]
  refine hc.mono ?_
  rintro e w' ⟨v, rfl, hr⟩
  exact h v w' hr
end

end Go.Proofs.YtlchipjckgaclaaDoor
