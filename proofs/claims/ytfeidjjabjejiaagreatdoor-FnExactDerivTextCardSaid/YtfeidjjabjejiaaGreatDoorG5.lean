/- Texts joined for the claims: Cs C0 N1 N2. -/
import Derived.Test.YtfeidjjabjejiaaGreatDoorG2
import Derived.Test.YtfeidjjabjejiaaGreatDoorG4
import Derived.Test.YtfeidjjabjejiaaGreatDoorG3
import Derived.Deep.RegionHeld3
import Derived.Deep.DeepCutAuto
/- copied, at spans: the same cells in new memory. -/
namespace Go.Proofs.YtfeidjjabjejiaaGreatDoor
set_option linter.unusedSimpArgs false
set_option linter.unusedVariables false
set_option maxRecDepth 100000
open Go.RowKit

theorem sizeSp : (Tryz.prog.info? TSp).map (·.size) = some 2 := by kernel_rfl
/-- a row copied: the same cells in new memory -/
theorem copiedSpan_c (A : Option Addr) (c n : Nat) (cs : List Value) (w : World) {lo : Nat} (h : Row w lo A cs) (hn : cs.length = n * 2) (h1 : ∀ u ∈ cs, u.oneCell' = true) (hx : n * 16 ≤ 140737488355328) :
    Calls Tryz.prog 107 #[.slice A n c] w fun e w' => ∃ v, e = .returned v ∧ w'.ownsRow w.heap.size TSp 2 v n cs ∧ Below w.heap.size w w' := by
  by_cases h0 : n = 0
  · subst h0
    go_enter Tryz.func107, Tryz.ntmps107
    go_wp2
    go_ret
    have : cs = [] := by simpa using hn
    subst this
    exact ⟨_, rfl, World.ownsRow_nil _ _ _ _, Below.refl _ _⟩
  · obtain ⟨i0, hi, hz0, hz1, hz2⟩ := info_parts infoSp
    have b0 : ((n : Int) == 0) = false := by simp [h0]
    have h0' : 0 < n := by omega
    clear h0
    rcases h with rfl | ⟨ad, rfl, _, hc⟩
    · simp at hn; omega
    have HN : Hid (cs.length = n * 2) := hn
    clear hn
    go_enter Tryz.func107, Tryz.ntmps107
    go_wp2_with (first
      | (at_make; refine wpList_make_full _ rfl (.tmp 8) (.tmp 8) 23 rfl w.heap.size TSp i0 (.agg #[.int .i64 0, .int .i64 0]) 2 Tryz.underlying23 hi hz0 hz1 .i64 .i64 _ _ n rfl rfl rfl rfl (by rw [hz2]; omega) (by unfold maxLen; omega) (Nat.le_refl _) ?_; intro w1 hown hgrow; obtain ⟨cur, hB, hsz, _⟩ := own_blk hown; have hb1 := (Below.refl _ w).grown hgrow (Nat.le_refl _) (fun k hk => by cases hk); have hc1 := hc.below hb1; clear hown hgrow; have HS : Hid (cur.size = n * 2) := hsz; clear hsz)
      | (with_reducible refine ev_copy (o := ⟨some 12, _, _, _, _, _⟩) rfl (.tmp 10) (.tmp 11) _ _ rfl TSp Tryz.underlying23 2 sizeSp w.heap.size n n _ ad rfl rfl cur TSp hB cs HN.out hc1 (by rw [HN.out, HS.out]; exact Nat.le_refl _) h1 ?_; intro w2 hB2 hg2))
    go_ret
    have e : cur.toList.drop cs.length = [] := List.drop_of_length_le (by rw [Array.length_toList, HN.out, HS.out]; exact Nat.le_refl _)
    rw [e, List.append_nil] at hB2
    exact ⟨_, rfl, own_of_blk hB2 HN.out (Nat.le_refl _) (by unfold maxLen; omega), hb1.grown hg2 hb1.size (fun k hk => by injection hk with hk; omega)⟩

end Go.Proofs.YtfeidjjabjejiaaGreatDoor

/- Copies of trees: what their statements leave. -/
namespace Go.Proofs.YtfeidjjabjejiaaGreatDoor
set_option linter.unusedSimpArgs false
set_option linter.unusedVariables false
set_option maxRecDepth 100000
open Go.RowKit

/-- a row of trees, as cells -/
structure KRow (w : World) (lo : Nat) (K : Option Addr) (ks : List Rex) (cs : List Value) : Prop where
  row : Row w lo K cs
  len : cs.length = ks.length * 3
  one : ∀ u ∈ cs, u.oneCell' = true
  each : ∀ (i : Nat) (r : Rex), ks[i]? = some r → ∃ v1 v2, cs[i * 3]? = some (.int .i64 r.kind) ∧ cs[i * 3 + 1]? = some v1 ∧ cs[i * 3 + 2]? = some v2 ∧ RexV w lo r (.int .i64 r.kind) v1 v2
theorem KCell.succ {w : World} {lo : Nat} {K : Option Addr} {i : Nat} {u0 u1 u2 : Value} (h : KCell w lo K i u0 u1 u2) : ∃ a, K = some a ∧ lo ≤ a.block ∧ w.cell? (a.add (i * 3)) = some u0 ∧ w.cell? (a.add (i * 3 + 1)) = some u1 ∧ w.cell? (a.add (i * 3 + 2)) = some u2 := by
  obtain ⟨a, e, hl, h0, h1, h2⟩ := h.ex
  exact ⟨a, e, hl, h0, by rw [add_field _ _ 1 (by omega)]; exact h1, by rw [add_field _ _ 2 (by omega)]; exact h2⟩
def threes (f : Nat → Value × Value × Value) : Nat → List Value
  | 0 => []
  | n + 1 => threes f n ++ [(f n).1, (f n).2.1, (f n).2.2]
theorem threes_length (f : Nat → Value × Value × Value) : ∀ n, (threes f n).length = n * 3
  | 0 => rfl
  | n + 1 => by rw [threes, List.length_append, threes_length f n]; simp; omega
theorem threes_get (f : Nat → Value × Value × Value) : ∀ n i, i < n → (threes f n)[i * 3]? = some (f i).1 ∧ (threes f n)[i * 3 + 1]? = some (f i).2.1 ∧ (threes f n)[i * 3 + 2]? = some (f i).2.2
  | 0, i, h => absurd h (Nat.not_lt_zero _)
  | n + 1, i, h => by
    have hl := threes_length f n
    rw [threes]
    by_cases e : i = n
    · subst e
      refine ⟨?_, ?_, ?_⟩
      · rw [List.getElem?_append_right (by omega), hl]; simp
      · rw [List.getElem?_append_right (by omega), hl, show i * 3 + 1 - i * 3 = 1 by omega]; simp
      · rw [List.getElem?_append_right (by omega), hl, show i * 3 + 2 - i * 3 = 2 by omega]; simp
    · have := threes_get f n i (by omega)
      rw [List.getElem?_append_left (by omega), List.getElem?_append_left (by omega), List.getElem?_append_left (by omega)]
      exact this
theorem threes_mem (f : Nat → Value × Value × Value) : ∀ n u, u ∈ threes f n → ∃ i, i < n ∧ (u = (f i).1 ∨ u = (f i).2.1 ∨ u = (f i).2.2)
  | 0, u, h => by simp [threes] at h
  | n + 1, u, h => by
    rw [threes, List.mem_append] at h
    rcases h with h | h
    · obtain ⟨i, hi, e⟩ := threes_mem f n u h
      exact ⟨i, by omega, e⟩
    · simp at h
      exact ⟨n, by omega, h⟩
theorem Kids.krow {w : World} {lo : Nat} {K : Option Addr} {ck : Nat} {ks : List Rex} (h : Kids w lo K ck ks) : ∃ cs, KRow w lo K ks cs := by
  obtain ⟨⟨V0, V1, V2, hc, hr⟩, _, _⟩ := h
  refine ⟨threes (fun i => (V0 i, V1 i, V2 i)) ks.length, ?_, threes_length _ _, fun u hu => ?_, fun i r hi => ?_⟩
  · by_cases h0 : ks.length = 0
    · rw [h0]; exact .inl rfl
    · obtain ⟨a, rfl, hl, _⟩ := (hc 0 (by omega)).succ
      refine .inr ⟨a, rfl, hl, fun j u hj => ?_⟩
      have hjl : j < ks.length * 3 := by rw [← threes_length (fun i => (V0 i, V1 i, V2 i)) ks.length]; exact (List.getElem?_eq_some_iff.1 hj).1
      obtain ⟨i, t, ht, rfl⟩ : ∃ i t, t < 3 ∧ j = i * 3 + t := ⟨j / 3, j % 3, Nat.mod_lt _ (by omega), by omega⟩
      have hi : i < ks.length := by omega
      obtain ⟨a', e, _, c0, c1, c2⟩ := (hc i hi).succ
      injection e with e
      subst e
      obtain ⟨g0, g1, g2⟩ := threes_get (fun i => (V0 i, V1 i, V2 i)) ks.length i hi
      match t, ht with
      | 0, _ => rw [Nat.add_zero] at hj ⊢; rw [g0] at hj; injection hj with hj; subst hj; exact c0
      | 1, _ => rw [g1] at hj; injection hj with hj; subst hj; exact c1
      | 2, _ => rw [g2] at hj; injection hj with hj; subst hj; exact c2
  · obtain ⟨i, hi, e⟩ := threes_mem _ _ _ hu
    have hv := (hr i (ks[i]) (List.getElem?_eq_getElem hi)).one
    rcases e with e | e | e
    · exact hv u (by simp [e])
    · exact hv u (by simp [e])
    · exact hv u (by simp [e])
  · have hi' := (List.getElem?_eq_some_iff.1 hi).1
    have hv := hr i r hi
    obtain ⟨_, _, _, _, e0, _⟩ := hv.parts
    obtain ⟨g0, g1, g2⟩ := threes_get (fun i => (V0 i, V1 i, V2 i)) ks.length i hi'
    dsimp only at g0 g1 g2
    rw [e0] at g0 hv
    exact ⟨V1 i, V2 i, g0, g1, g2, hv⟩

def CopyPost (k : Int) (s : List Sp) (ks : List Rex) (w : World) (e : Ending) (w' : World) : Prop := ∃ u1 u2 fp, e = .returned (.agg #[.int .i64 k, u1, u2]) ∧ OwnT w' fp (.mk k s ks) u1 u2 ∧ fp.Nodup ∧ (∀ b, b ∈ fp → w.heap.size ≤ b) ∧ Below w.heap.size w w'
def CopyOk (r : Rex) : Prop := ∀ (v1 v2 : Value) (w : World) (lo : Nat), RexV w lo r (.int .i64 r.kind) v1 v2 → r.size ≤ 1073741824 →
  Calls Tryz.prog 56 #[.agg #[.int .i64 r.kind, v1, v2]] w (CopyPost r.kind r.set r.kids w)

/-- what the first statement leaves -/
structure CopyMid (wb wx : World) (g : Nat) (k : Int) (s : List Sp) (n : Nat) (cs : List Value) (vS vK : Value) : Prop where
  blk : Blk wx g #[.int .i64 k, vS, vK] TRx
  set : OwnSp wx wb.heap.size vS s
  row : wx.ownsRow wb.heap.size TRx 3 vK n cs
  bel : Below wb.heap.size wb wx
  gS : g ∉ vblk vS
  gK : g ∉ vblk vK
  gl : wb.heap.size ≤ g
  dj : ∀ b, b ∈ vblk vS → b ∈ vblk vK → False
def CopyMidP (wb : World) (k : Int) (s : List Sp) (n : Nat) (cs : List Value) (v : Value) (wx : World) : Prop := ∃ g vS vK, v = .pointer (some ⟨g, 0, none⟩) ∧ CopyMid wb wx g k s n cs vS vK

abbrev Z0 : Obj := .cells #[.int .i64 0, nilS, nilS] TRx (0, 0)
theorem own_re {w : World} {base base' n size : Nat} {e : TypeId} {v : Value} {cs : List Value} (h : w.ownsRow base e size v n cs) (hb : ∀ b, b ∈ vblk v → base' ≤ b) : w.ownsRow base' e size v n cs := by
  obtain ⟨h1, h2⟩ := h
  refine ⟨h1, h2.imp id ?_⟩
  rintro ⟨g, cap, cur, rfl, hg, r⟩
  exact ⟨g, cap, cur, rfl, hb g (by simp [vblk_some]), r⟩
theorem own_vlt {w : World} {base n size : Nat} {e : TypeId} {v : Value} {cs : List Value} (h : w.ownsRow base e size v n cs) : ∀ b, b ∈ vblk v → base ≤ b ∧ b < w.heap.size := fun b hb => h.lt b (mem_vblk.1 hb)
theorem mid_of {wa wX : World} {g : Nat} {k : Int} {s : List Sp} {n : Nat} {cs : List Value} {vS vK : Value} {lS lK : Nat} (hl : s.length ≤ maxN) (hB : Blk wX g #[.int .i64 k, vS, vK] TRx) (hS : wX.ownsRow lS TSp 2 vS s.length (spcs s)) (hK : wX.ownsRow lK TRx 3 vK n cs)
    (hb : Below wa.heap.size wa wX) (gl : wa.heap.size ≤ g) (bS : ∀ b, b ∈ vblk vS → wa.heap.size ≤ b ∧ b ≠ g) (bK : ∀ b, b ∈ vblk vK → wa.heap.size ≤ b ∧ b ≠ g) (dj : ∀ b, b ∈ vblk vS → b ∈ vblk vK → False) : CopyMidP wa k s n cs (.pointer (some ⟨g, 0, none⟩)) wX :=
  ⟨g, vS, vK, rfl, hB, ⟨own_re hS fun b h => (bS b h).1, hl⟩, own_re hK fun b h => (bK b h).1, hb, fun h => (bS g h).2 rfl, fun h => (bK g h).2 rfl, gl, dj⟩
theorem mid1 {wa wA wB : World} {k : Int} {s : List Sp} {n : Nat} {cs : List Value} {vS vK : Value} (hl : s.length ≤ maxN) (OS : wA.ownsRow wa.drew.heap.size TSp 2 vS s.length (spcs s)) (BS : Below wa.drew.heap.size wa.drew wA) (OK : wB.ownsRow wA.heap.size TRx 3 vK n cs) (BK : Below wA.heap.size wA wB) :
    CopyMidP wa k s n cs (.pointer (some ⟨wB.heap.size, 0, none⟩)) (wB.alloc (.cells #[.int .i64 k, vS, vK] TRx (0, 0))) := by
  have s1 : wa.heap.size ≤ wA.heap.size := BS.size
  have s2 := BK.size
  have e1 := own_vlt OS
  have e2 := own_vlt OK
  have e3 : ∀ b, b ∈ vblk vS → wa.heap.size ≤ b := fun b h => (e1 b h).1
  refine mid_of hl (blk_new _ _ _) (own_below (own_below OS BK) (below_alloc (Below.refl _ _) _)) (own_below OK (below_alloc (Below.refl _ _) _)) (below_alloc (below_then (below_drew (Below.refl wa.heap.size wa)) (below_then BS BK)) _) (by omega) (fun b h => ?_) (fun b h => ?_) (fun b h h' => ?_)
  · have := e1 b h; have := e3 b h; omega
  · have := e2 b h; omega
  · have := e1 b h; have := e2 b h'; omega
theorem mid2 {wa wA wB : World} {k : Int} {s : List Sp} {n : Nat} {cs : List Value} {vS vK : Value} (hl : s.length ≤ maxN) (OS : wA.ownsRow wa.drew.heap.size TSp 2 vS s.length (spcs s)) (BS : Below wa.drew.heap.size wa.drew wA) (OK : wB.ownsRow (wA.alloc Z0).heap.size TRx 3 vK n cs) (BK : Below (wA.alloc Z0).heap.size (wA.alloc Z0) wB) :
    CopyMidP wa k s n cs (.pointer (some ⟨wA.heap.size, 0, none⟩)) (((wB.setCell ⟨wA.heap.size, 0, none⟩ (.int .i64 k)).setCell ⟨wA.heap.size, 1, none⟩ vS).setCell ⟨wA.heap.size, 2, none⟩ vK) := by
  have s1 : wa.heap.size ≤ wA.heap.size := BS.size
  have s2 := BK.size
  have s3 : (wA.alloc Z0).heap.size = wA.heap.size + 1 := by simp
  have e1 := own_vlt OS
  have e2 := own_vlt OK
  have e3 : ∀ b, b ∈ vblk vS → wa.heap.size ≤ b := fun b h => (e1 b h).1
  have hZ : Blk wB wA.heap.size #[.int .i64 0, nilS, nilS] TRx := (blk_new wA _ _).below BK
  have far : ∀ b, b ≠ wA.heap.size → (((wB.setCell ⟨wA.heap.size, 0, none⟩ (.int .i64 k)).setCell ⟨wA.heap.size, 1, none⟩ vS).setCell ⟨wA.heap.size, 2, none⟩ vK).heap[b]? = wB.heap[b]? := fun b hb =>
    (Below.heap_setCell _ _ _ _ hb).trans ((Below.heap_setCell _ _ _ _ hb).trans (Below.heap_setCell _ _ _ _ hb))
  have OS2 := own_below (own_below OS (below_alloc (Below.refl _ _) Z0)) BK
  refine mid_of hl (by simpa using ((hZ.set 0 (.int .i64 k)).set 1 vS).set 2 vK) (own_move OS2 fun b h => far b ?_) (own_move OK fun b h => far b ?_)
    (below_set (below_set (below_set (below_then (below_drew (Below.refl wa.heap.size wa)) (below_then BS (below_then (below_alloc (Below.refl _ _) _) BK))) s1 _) s1 _) s1 _) s1 (fun b h => ?_) (fun b h => ?_) (fun b h h' => ?_)
  · have := e1 b (mem_vblk.2 h); omega
  · have := e2 b (mem_vblk.2 h); omega
  · have := e1 b h; have := e3 b h; omega
  · have := e2 b h; omega
  · have := e1 b h; have := e2 b h'; omega
theorem mid3 {wa wA wB : World} {k : Int} {s : List Sp} {n : Nat} {cs : List Value} {vS vK : Value} (hl : s.length ≤ maxN) (OS : wA.ownsRow (wa.alloc Z0).drew.heap.size TSp 2 vS s.length (spcs s)) (BS : Below (wa.alloc Z0).drew.heap.size (wa.alloc Z0).drew wA) (OK : wB.ownsRow wA.heap.size TRx 3 vK n cs) (BK : Below wA.heap.size wA wB) :
    CopyMidP wa k s n cs (.pointer (some ⟨wa.heap.size, 0, none⟩)) (((wB.setCell ⟨wa.heap.size, 0, none⟩ (.int .i64 k)).setCell ⟨wa.heap.size, 1, none⟩ vS).setCell ⟨wa.heap.size, 2, none⟩ vK) := by
  have s0 : (wa.alloc Z0).drew.heap.size = wa.heap.size + 1 := by simp
  have s1 := BS.size
  have s2 := BK.size
  have e1 := own_vlt OS
  have e2 := own_vlt OK
  have hZ : Blk wB wa.heap.size #[.int .i64 0, nilS, nilS] TRx := ((show Blk (wa.alloc Z0).drew wa.heap.size #[.int .i64 0, nilS, nilS] TRx from ⟨(blk_new wa _ _).eq⟩).below BS).below BK
  have far : ∀ b, b ≠ wa.heap.size → (((wB.setCell ⟨wa.heap.size, 0, none⟩ (.int .i64 k)).setCell ⟨wa.heap.size, 1, none⟩ vS).setCell ⟨wa.heap.size, 2, none⟩ vK).heap[b]? = wB.heap[b]? := fun b hb =>
    (Below.heap_setCell _ _ _ _ hb).trans ((Below.heap_setCell _ _ _ _ hb).trans (Below.heap_setCell _ _ _ _ hb))
  refine mid_of hl (by simpa using ((hZ.set 0 (.int .i64 k)).set 1 vS).set 2 vK) (own_move (own_below OS BK) fun b h => far b ?_) (own_move OK fun b h => far b ?_)
    (below_set (below_set (below_set (below_then (below_drew (below_alloc (Below.refl wa.heap.size wa) Z0)) (below_then BS BK)) (Nat.le_refl _) _) (Nat.le_refl _) _) (Nat.le_refl _) _) (Nat.le_refl _) (fun b h => ?_) (fun b h => ?_) (fun b h h' => ?_)
  · have := e1 b (mem_vblk.2 h); omega
  · have := e2 b (mem_vblk.2 h); omega
  · have := e1 b h; omega
  · have := e2 b h; omega
  · have := e1 b h; have := e2 b h'; omega

theorem three_one (k : Int) (A K : Option Addr) (n m c d : Nat) : ∀ u ∈ [Value.int .i64 k, .slice A n c, .slice K m d], u.oneCell' = true := by
  intro u hu
  simp at hu
  rcases hu with rfl | rfl | rfl <;> rfl
theorem copy_fin {w wa wr w5 : World} {k : Int} {s : List Sp} {ks : List Rex} {vS vK : Value} {fk : List Nat} {L : List KInfo} (hz : w.heap.size + 1 < wa.heap.size) (HB : Below w.heap.size w wa) (HOS : OwnSp wr wa.heap.size vS s) (HOK : OwnK wr fk ks vK L) (HBE : Below wa.heap.size wa wr)
    (HFK : ∀ b, b ∈ fk → wa.heap.size ≤ b ∧ b ∉ vblk vS) (HG : wr.grownBy w5 (some (w.heap.size + 1))) : CopyPost k s ks w (.returned (.agg #[.int .i64 k, vS, vK])) w5 := by
  have hfr : ∀ b, b < wr.heap.size → b ≠ w.heap.size + 1 → w5.heap[b]? = wr.heap[b]? := fun b hb hne => HG.block b hb fun e => by injection e with e; exact hne e
  have nd : (vblk vS ++ fk).Nodup := by
    refine List.nodup_append.2 ⟨?_, HOK.nd, fun a ha b hb e => (HFK b hb).2 (e ▸ ha)⟩
    unfold vblk; split <;> simp
  have hlo : ∀ b, b ∈ vblk vS ++ fk → wa.heap.size ≤ b := fun b hb => by
    rcases List.mem_append.1 hb with hb | hb
    · exact (HOS.lt b hb).1
    · exact (HFK b hb).1
  refine ⟨vS, vK, vblk vS ++ fk, rfl, ?_, nd, fun b hb => by have := hlo b hb; omega, (below_then HB HBE).grown HG (Nat.le_trans HB.size HBE.size) (fun q hq => by injection hq with hq; omega)⟩
  refine (OwnT.of (k := k) (HOS.lower (Nat.zero_le _)) HOK nd).stay fun b hb => ?_
  have hT := (OwnT.of (k := k) (HOS.lower (Nat.zero_le _)) HOK nd).lt b hb
  exact hfr b hT (by have := hlo b hb; omega)

theorem splice_set (cur : Array Value) (j : Nat) (a b c : Value) (h : j * 3 + 3 ≤ cur.size) :
    ((cur.setIfInBounds (j * 3) a).setIfInBounds (j * 3 + 1) b).setIfInBounds (j * 3 + 2) c = (cur.toList.take (j * 3) ++ [a, b, c] ++ cur.toList.drop (j * 3 + 3)).toArray := by
  obtain ⟨l⟩ := cur
  simp only [List.setIfInBounds_toArray, List.size_toArray] at h ⊢
  congr 1
  apply List.ext_getElem?
  intro t
  have hl : (l.take (j * 3)).length = j * 3 := by rw [List.length_take]; omega
  rw [List.getElem?_set, List.getElem?_set, List.getElem?_set, List.append_assoc]
  simp only [List.length_set]
  by_cases h0 : t < j * 3
  · rw [if_neg (by omega), if_neg (by omega), if_neg (by omega), List.getElem?_append_left (by omega), List.getElem?_take, if_pos h0]
  · rw [List.getElem?_append_right (by omega), hl]
    by_cases h1 : t < j * 3 + 3
    · obtain ⟨d, rfl⟩ : ∃ d, t = j * 3 + d := ⟨t - j * 3, by omega⟩
      rw [show j * 3 + d - j * 3 = d by omega]
      match d, (show d < 3 by omega) with
      | 0, _ => rw [if_neg (by omega), if_neg (by omega), if_pos (by omega), if_pos (by omega)]; rfl
      | 1, _ => rw [if_neg (by omega), if_pos rfl, if_pos (by omega)]; rfl
      | 2, _ => rw [if_pos rfl, if_pos (by omega)]; rfl
    · rw [if_neg (by omega), if_neg (by omega), if_neg (by omega), List.getElem?_append_right (by simp; omega), List.getElem?_drop]
      congr 1
      simp
      omega
theorem splice_ge (l : List Value) (a b c : Value) (j t : Nat) (h : j * 3 + 3 ≤ l.length) (ht : (j + 1) * 3 ≤ t) : (l.take (j * 3) ++ [a, b, c] ++ l.drop (j * 3 + 3)).toArray[t]? = l[t]? := by
  have hl : (l.take (j * 3) ++ [a, b, c]).length = j * 3 + 3 := by simp only [List.length_append, List.length_take, List.length_cons, List.length_nil]; omega
  rw [List.getElem?_toArray, List.getElem?_append_right (by omega), hl, List.getElem?_drop]
  congr 1
  omega
theorem copy_round {wr wD : World} {gK lo cap j n : Nat} {cur : Array Value} {ks : List Rex} {L : List KInfo} {r : Rex} {fp : List Nat} {v1 v2 : Value} {cs : List Value} (HX : KPart wr gK lo cap cur ks j L) (HR : ks[j]? = some r) (b2 : Below wr.heap.size wr wD) (HO : OwnT wD fp r v1 v2) (HF : ∀ b, b ∈ fp → wr.heap.size ≤ b) (HN : fp.Nodup)
    (hlo : lo ≤ wr.heap.size) (HT : ∀ t, j * 3 ≤ t → t < ks.length * 3 → cur[t]? = cs[t]?) :
    ∃ cur', KPart (((wD.setCell ⟨gK, j * 3, none⟩ (.int .i64 r.kind)).setCell ⟨gK, j * 3 + 1, none⟩ v1).setCell ⟨gK, j * 3 + 2, none⟩ v2) gK lo cap cur' ks (j + 1) (L ++ [⟨fp, v1, v2⟩]) ∧ ∀ t, (j + 1) * 3 ≤ t → t < ks.length * 3 → cur'[t]? = cs[t]? := by
  have hj := (List.getElem?_eq_some_iff.1 HR).1
  have hsz := HX.size
  have hcn := HX.capn
  have hX5 : Blk (((wD.setCell ⟨gK, j * 3, none⟩ (.int .i64 r.kind)).setCell ⟨gK, j * 3 + 1, none⟩ v1).setCell ⟨gK, j * 3 + 2, none⟩ v2) gK (cur.toList.take (j * 3) ++ [.int .i64 r.kind, v1, v2] ++ cur.toList.drop (j * 3 + 3)).toArray TRx := by
    rw [← splice_set cur j _ _ _ (by omega)]
    exact (((HX.blk.below b2).set _ _).set _ _).set _ _
  refine ⟨_, HX.snoc HR b2 HO HF HN hX5 (grown_set (grown_set (grown_set (grown_refl _ _) _ _) _ _) _ _) hlo, fun t h1 h2 => ?_⟩
  rw [splice_ge _ _ _ _ _ _ (by rw [Array.length_toList]; omega) h1, Array.getElem?_toList]
  exact HT t (by omega) h2

end Go.Proofs.YtfeidjjabjejiaaGreatDoor

/- normNot, normStar, of the program and of the reference. -/
namespace Go.Proofs.YtfeidjjabjejiaaGreatDoor
set_option linter.unusedSimpArgs false
set_option linter.unusedVariables false
set_option maxRecDepth 100000
open Go.RowKit

def isNo (r : Rex) : Bool := decide (r.kind = 1) && r.set.isEmpty
theorem isNo_iff (r : Rex) : isNo r = true ↔ r.kind = 1 ∧ r.set = [] := by simp [isNo]
def kid0 (r : Rex) : Rex := r.kids.getD 0 default
def nNot (r : Rex) : Rex := if r.kind = 7 then kid0 r else .mk 7 [] [r]
def nStar (r : Rex) : Rex := if r.kind = 5 then r else if r.kind = 2 ∨ isNo r = true then .mk 2 [] [] else .mk 5 [] [r]

theorem iNo_c (r : Rex) (v1 v2 : Value) (w : World) (lo : Nat) (h : RexV w lo r (.int .i64 r.kind) v1 v2) :
    Calls Tryz.prog 120 #[.agg #[.int .i64 r.kind, v1, v2]] w fun e w' => e = .returned (.bool (isNo r)) ∧ Below w.heap.size w w' := by
  obtain ⟨A, c, K, ck, _, rfl, rfl, hs, hk⟩ := h.parts
  clear h hk
  have hl := hs.len
  by_cases h1 : r.kind = 1
  · by_cases h2 : r.set.length = 0
    · have E : Hid (isNo r = true) := (isNo_iff r).2 ⟨h1, List.length_eq_zero_iff.1 h2⟩
      rw [h1, h2]
      clear h1 h2 hs hl
      go_enter Tryz.func120, Tryz.ntmps120
      go_wp2
      go_ret
      exact ⟨ret_bool E.out.symm, below_alloc (Below.refl _ _) _⟩
    · have E : Hid (isNo r = false) := by show _ = _; rw [isNo, Bool.and_eq_false_iff]; right; cases h : r.set with | nil => rw [h] at h2; exact absurd rfl h2 | cons x xs => rfl
      rw [h1]
      obtain ⟨n, hn⟩ : ∃ n, n = r.set.length := ⟨_, rfl⟩
      rw [← hn] at h2 ⊢
      have d : ((n : Int) == 0) = false := by simp [h2]
      have d2 : (n == 0) = false := by simp [h2]
      clear h1 h2 hs hl hn
      go_enter Tryz.func120, Tryz.ntmps120
      go_wp2
      go_ret
      exact ⟨ret_bool E.out.symm, below_alloc (Below.refl _ _) _⟩
  · have E : Hid (isNo r = false) := by show _ = _; rw [isNo, decide_eq_false h1]; rfl
    obtain ⟨k, hk⟩ : ∃ k, k = r.kind := ⟨_, rfl⟩
    rw [← hk] at h1 ⊢
    have d : (k == 1) = false := by simp [h1]
    clear h1 hs hl hk
    go_enter Tryz.func120, Tryz.ntmps120
    go_wp2
    go_ret
    exact ⟨ret_bool E.out.symm, below_alloc (Below.refl _ _) _⟩
theorem sNo_c (r : Rex) (v1 v2 : Value) (w : World) (lo : Nat) (h : RexV w lo r (.int .i64 r.kind) v1 v2) :
    Calls Tryz.prog 137 #[.agg #[.int .i64 r.kind, v1, v2]] w fun e w' => e = .returned (.bool (isNo r)) ∧ Below w.heap.size w w' := by
  obtain ⟨A, c, K, ck, _, rfl, rfl, hs, hk⟩ := h.parts
  clear h hk
  have hl := hs.len
  by_cases h1 : r.kind = 1
  · by_cases h2 : r.set.length = 0
    · have E : Hid (isNo r = true) := (isNo_iff r).2 ⟨h1, List.length_eq_zero_iff.1 h2⟩
      rw [h1, h2]
      clear h1 h2 hs hl
      go_enter Tryz.func137, Tryz.ntmps137
      go_wp2
      go_ret
      exact ⟨ret_bool E.out.symm, below_alloc (Below.refl _ _) _⟩
    · have E : Hid (isNo r = false) := by show _ = _; rw [isNo, Bool.and_eq_false_iff]; right; cases h : r.set with | nil => rw [h] at h2; exact absurd rfl h2 | cons x xs => rfl
      rw [h1]
      obtain ⟨n, hn⟩ : ∃ n, n = r.set.length := ⟨_, rfl⟩
      rw [← hn] at h2 ⊢
      have d : ((n : Int) == 0) = false := by simp [h2]
      have d2 : (n == 0) = false := by simp [h2]
      clear h1 h2 hs hl hn
      go_enter Tryz.func137, Tryz.ntmps137
      go_wp2
      go_ret
      exact ⟨ret_bool E.out.symm, below_alloc (Below.refl _ _) _⟩
  · have E : Hid (isNo r = false) := by show _ = _; rw [isNo, decide_eq_false h1]; rfl
    obtain ⟨k, hk⟩ : ∃ k, k = r.kind := ⟨_, rfl⟩
    rw [← hk] at h1 ⊢
    have d : (k == 1) = false := by simp [h1]
    clear h1 hs hl hk
    go_enter Tryz.func137, Tryz.ntmps137
    go_wp2
    go_ret
    exact ⟨ret_bool E.out.symm, below_alloc (Below.refl _ _) _⟩

set_option maxHeartbeats 1000000 in
theorem iNot_c (r : Rex) (d : Nat) (v1 v2 : Value) (w : World) (p : Nat → Prop) (hf : formed d r = true) (h : RexP w p r (.int .i64 r.kind) v1 v2) (hp : ∀ b, p b → b < w.heap.size) :
    Calls Tryz.prog 66 #[.agg #[.int .i64 r.kind, v1, v2]] w (RexPost p (nNot r) w) := by
  obtain ⟨A, c, K, ck, _, rfl, rfl, hs, hk⟩ := h.parts
  obtain ⟨wa, hwa⟩ : ∃ x, x = (w.alloc (.cells #[.int .i64 r.kind, .slice A r.set.length c, .slice K r.kids.length ck] TRx)).alloc (.cells #[.int .i64 0, nilS, nilS] TRx) := ⟨_, rfl⟩
  have hb : Below w.heap.size w wa := by rw [hwa]; exact below_alloc (below_alloc (Below.refl _ _) _) _
  have m0 : Blk wa w.heap.size #[.int .i64 r.kind, .slice A r.set.length c, .slice K r.kids.length ck] TRx := by rw [hwa]; exact (blk_new w _ _).alloc _
  have m1 : Blk wa (w.heap.size + 1) #[.int .i64 0, nilS, nilS] TRx := by
    rw [hwa]
    have := blk_new (w.alloc (.cells #[.int .i64 r.kind, .slice A r.set.length c, .slice K r.kids.length ck] TRx)) #[.int .i64 0, nilS, nilS] TRx
    simpa using this
  have hz1 : wa.heap.size = w.heap.size + 2 := by rw [hwa]; simp
  have HZ := Lib.hid hz1
  clear hz1
  replace hwa := hwa.symm
  have HV := Lib.hid (h.under hb)
  have HB := Lib.hid hb
  have M0 := Lib.hid m0
  have M1 := Lib.hid m1
  have HP := Lib.hid hp
  have n0 : wa.cell? ⟨w.heap.size, 0, none⟩ = some (.int .i64 r.kind) := by rw [m0.cell]; rfl
  have n1 : wa.cell? ⟨w.heap.size, 1, none⟩ = some (.slice A r.set.length c) := by rw [m0.cell]; rfl
  have n2 : wa.cell? ⟨w.heap.size, 2, none⟩ = some (.slice K r.kids.length ck) := by rw [m0.cell]; rfl
  clear hb m0 m1 hs hk h hp
  by_cases hk : r.kind = 7
  · obtain ⟨a, ha⟩ : ∃ a, r.kids = [a] := by
      obtain ⟨k, s, ks⟩ := r
      rcases formed_shape hf with ⟨e, _⟩ | ⟨_, a, e, _⟩ | ⟨e, _⟩
      · exfalso; have : k = 7 := hk; omega
      · exact ⟨a, e⟩
      · exfalso; have : k = 7 := hk; omega
    have E : Hid (nNot r = a) := by show _ = _; rw [nNot, if_pos hk, kid0, ha]; rfl
    obtain ⟨_, _, _, _, _, e1, e2, _, hkk⟩ := HV.out.parts
    injection e2 with e3 e4 e5
    subst e3 e5
    rw [ha] at hkk
    obtain ⟨ad, A2, c2, K2, d2, rfl, hv, c0, c1, c2'⟩ := hkk.one
    have HA := Lib.hid hv
    have HM := Lib.hid M0.out
    have d7 : (r.kind == 7) = true := by simp [hk]
    rw [ha] at hwa n2 ⊢
    clear e1 e4 hkk hv hk ha M0
    simp only [List.length_cons, List.length_nil, Nat.zero_add] at hwa n2 ⊢
    go_enter Tryz.func66, Tryz.ntmps66
    go_wp2_with ((with_reducible refine at_st 2 9 ?_); refine ev_store (o := ⟨none, .store _ (.tmp 2) _, _, _, _, _⟩) rfl rfl TRx (.tmp 2) (.tmp 9) rfl (w.heap.size + 1) 0 rfl [.int .i64 a.kind, .slice A2 a.set.length c2, .slice K2 a.kids.length d2] rfl _ TRx M1.out (sizeRx' _ _ _) (by show 0 + 3 ≤ 3; omega) (three_one _ _ _ _ _ _ _) ?_; intro w5 hX5 hg5; have HX5 : Hid (Blk w5 (w.heap.size + 1) ([.int .i64 a.kind, .slice A2 a.set.length c2, .slice K2 a.kids.length d2]).toArray TRx) := hX5; have HG5 := Lib.hid hg5; clear hX5 hg5)
    refine bodyPost_ret (results_cell_row rfl _ _ (w.heap.size + 1) TRx _ (0, 0) _ rfl HX5.out.eq Tryz.underlying26 rfl (by rw [sizeRx]; rfl)) rfl ?_
    rw [E.out]
    exact rex_fin rfl rfl HP.out (HA.out.mono fun b hb => ⟨fun e => by have := HP.out b hb; omega, .inl hb⟩) HB.out HG5.out (Nat.le_succ _)
  · have E : Hid (nNot r = .mk 7 [] [r]) := by show _ = _; rw [nNot, if_neg hk]
    have d7 : (r.kind == 7) = false := by simp [hk]
    clear hk
    obtain ⟨wb, hwb⟩ : ∃ x, x = wa.alloc (.cells #[.int .i64 r.kind, .slice A r.set.length c, .slice K r.kids.length ck] TRx) := ⟨_, rfl⟩
    have hbb : Below wa.heap.size wa wb := by rw [hwb]; exact below_alloc (Below.refl _ _) _
    have mb : Blk wb wa.heap.size #[.int .i64 r.kind, .slice A r.set.length c, .slice K r.kids.length ck] TRx := by rw [hwb]; exact blk_new _ _ _
    have MB := Lib.hid mb
    have M1b := Lib.hid (M1.out.below hbb)
    have HVb := Lib.hid (HV.out.under hbb)
    have HBb := Lib.hid (below_then HB.out hbb)
    replace hwb := hwb.symm
    clear mb hbb
    go_enter Tryz.func66, Tryz.ntmps66
    go_wp2_with ((with_reducible refine at_st 2 12 ?_); refine ev_store (o := ⟨none, .store _ (.tmp 2) _, _, _, _, _⟩) rfl rfl TRx (.tmp 2) (.tmp 12) rfl (w.heap.size + 1) 0 rfl [.int .i64 7, nilS, .slice (some ⟨wa.heap.size, 0, none⟩) 1 1] rfl _ TRx M1b.out (sizeRx' _ _ _) (by show 0 + 3 ≤ 3; omega) (three_one _ _ _ _ _ _ _) ?_; intro w5 hX5 hg5; have HX5 : Hid (Blk w5 (w.heap.size + 1) ([.int .i64 7, nilS, .slice (some ⟨wa.heap.size, 0, none⟩) 1 1]).toArray TRx) := hX5; have HG5 := Lib.hid hg5; clear hX5 hg5)
    refine bodyPost_ret (results_cell_row rfl _ _ (w.heap.size + 1) TRx _ (0, 0) _ rfl HX5.out.eq Tryz.underlying26 rfl (by rw [sizeRx]; rfl)) rfl ?_
    rw [E.out]
    refine rex_fin rfl rfl HP.out ?_ HBb.out HG5.out (Nat.le_succ _)
    refine RexP.of (k := 7) (s := []) (ks := [r]) ⟨⟨.inl rfl, Nat.le_refl _, by simp⟩, fun a e => by cases e⟩ (KidsP.mk1 MB.out ⟨by rw [HZ.out]; omega, .inr (by rw [HZ.out]; omega)⟩ (HVb.out.mono fun b hb => ⟨fun e => by have := HP.out b hb; omega, .inl hb⟩))
set_option maxHeartbeats 1000000 in
theorem sNot_c (r : Rex) (d : Nat) (v1 v2 : Value) (w : World) (p : Nat → Prop) (hf : formed d r = true) (h : RexP w p r (.int .i64 r.kind) v1 v2) (hp : ∀ b, p b → b < w.heap.size) :
    Calls Tryz.prog 113 #[.agg #[.int .i64 r.kind, v1, v2]] w (RexPost p (nNot r) w) := by
  obtain ⟨A, c, K, ck, _, rfl, rfl, hs, hk⟩ := h.parts
  obtain ⟨wa, hwa⟩ : ∃ x, x = (w.alloc (.cells #[.int .i64 r.kind, .slice A r.set.length c, .slice K r.kids.length ck] TRx)).alloc (.cells #[.int .i64 0, nilS, nilS] TRx) := ⟨_, rfl⟩
  have hb : Below w.heap.size w wa := by rw [hwa]; exact below_alloc (below_alloc (Below.refl _ _) _) _
  have m0 : Blk wa w.heap.size #[.int .i64 r.kind, .slice A r.set.length c, .slice K r.kids.length ck] TRx := by rw [hwa]; exact (blk_new w _ _).alloc _
  have m1 : Blk wa (w.heap.size + 1) #[.int .i64 0, nilS, nilS] TRx := by
    rw [hwa]
    have := blk_new (w.alloc (.cells #[.int .i64 r.kind, .slice A r.set.length c, .slice K r.kids.length ck] TRx)) #[.int .i64 0, nilS, nilS] TRx
    simpa using this
  have hz1 : wa.heap.size = w.heap.size + 2 := by rw [hwa]; simp
  have HZ := Lib.hid hz1
  clear hz1
  replace hwa := hwa.symm
  have HV := Lib.hid (h.under hb)
  have HB := Lib.hid hb
  have M0 := Lib.hid m0
  have M1 := Lib.hid m1
  have HP := Lib.hid hp
  have n0 : wa.cell? ⟨w.heap.size, 0, none⟩ = some (.int .i64 r.kind) := by rw [m0.cell]; rfl
  have n1 : wa.cell? ⟨w.heap.size, 1, none⟩ = some (.slice A r.set.length c) := by rw [m0.cell]; rfl
  have n2 : wa.cell? ⟨w.heap.size, 2, none⟩ = some (.slice K r.kids.length ck) := by rw [m0.cell]; rfl
  clear hb m0 m1 hs hk h hp
  by_cases hk : r.kind = 7
  · obtain ⟨a, ha⟩ : ∃ a, r.kids = [a] := by
      obtain ⟨k, s, ks⟩ := r
      rcases formed_shape hf with ⟨e, _⟩ | ⟨_, a, e, _⟩ | ⟨e, _⟩
      · exfalso; have : k = 7 := hk; omega
      · exact ⟨a, e⟩
      · exfalso; have : k = 7 := hk; omega
    have E : Hid (nNot r = a) := by show _ = _; rw [nNot, if_pos hk, kid0, ha]; rfl
    obtain ⟨_, _, _, _, _, e1, e2, _, hkk⟩ := HV.out.parts
    injection e2 with e3 e4 e5
    subst e3 e5
    rw [ha] at hkk
    obtain ⟨ad, A2, c2, K2, d2, rfl, hv, c0, c1, c2'⟩ := hkk.one
    have HA := Lib.hid hv
    have HM := Lib.hid M0.out
    have d7 : (r.kind == 7) = true := by simp [hk]
    rw [ha] at hwa n2 ⊢
    clear e1 e4 hkk hv hk ha M0
    simp only [List.length_cons, List.length_nil, Nat.zero_add] at hwa n2 ⊢
    go_enter Tryz.func113, Tryz.ntmps113
    go_wp2_with ((with_reducible refine at_st 2 9 ?_); refine ev_store (o := ⟨none, .store _ (.tmp 2) _, _, _, _, _⟩) rfl rfl TRx (.tmp 2) (.tmp 9) rfl (w.heap.size + 1) 0 rfl [.int .i64 a.kind, .slice A2 a.set.length c2, .slice K2 a.kids.length d2] rfl _ TRx M1.out (sizeRx' _ _ _) (by show 0 + 3 ≤ 3; omega) (three_one _ _ _ _ _ _ _) ?_; intro w5 hX5 hg5; have HX5 : Hid (Blk w5 (w.heap.size + 1) ([.int .i64 a.kind, .slice A2 a.set.length c2, .slice K2 a.kids.length d2]).toArray TRx) := hX5; have HG5 := Lib.hid hg5; clear hX5 hg5)
    refine bodyPost_ret (results_cell_row rfl _ _ (w.heap.size + 1) TRx _ (0, 0) _ rfl HX5.out.eq Tryz.underlying26 rfl (by rw [sizeRx]; rfl)) rfl ?_
    rw [E.out]
    exact rex_fin rfl rfl HP.out (HA.out.mono fun b hb => ⟨fun e => by have := HP.out b hb; omega, .inl hb⟩) HB.out HG5.out (Nat.le_succ _)
  · have E : Hid (nNot r = .mk 7 [] [r]) := by show _ = _; rw [nNot, if_neg hk]
    have d7 : (r.kind == 7) = false := by simp [hk]
    clear hk
    obtain ⟨wb, hwb⟩ : ∃ x, x = wa.alloc (.cells #[.int .i64 r.kind, .slice A r.set.length c, .slice K r.kids.length ck] TRx) := ⟨_, rfl⟩
    have hbb : Below wa.heap.size wa wb := by rw [hwb]; exact below_alloc (Below.refl _ _) _
    have mb : Blk wb wa.heap.size #[.int .i64 r.kind, .slice A r.set.length c, .slice K r.kids.length ck] TRx := by rw [hwb]; exact blk_new _ _ _
    have MB := Lib.hid mb
    have M1b := Lib.hid (M1.out.below hbb)
    have HVb := Lib.hid (HV.out.under hbb)
    have HBb := Lib.hid (below_then HB.out hbb)
    replace hwb := hwb.symm
    clear mb hbb
    go_enter Tryz.func113, Tryz.ntmps113
    go_wp2_with ((with_reducible refine at_st 2 12 ?_); refine ev_store (o := ⟨none, .store _ (.tmp 2) _, _, _, _, _⟩) rfl rfl TRx (.tmp 2) (.tmp 12) rfl (w.heap.size + 1) 0 rfl [.int .i64 7, nilS, .slice (some ⟨wa.heap.size, 0, none⟩) 1 1] rfl _ TRx M1b.out (sizeRx' _ _ _) (by show 0 + 3 ≤ 3; omega) (three_one _ _ _ _ _ _ _) ?_; intro w5 hX5 hg5; have HX5 : Hid (Blk w5 (w.heap.size + 1) ([.int .i64 7, nilS, .slice (some ⟨wa.heap.size, 0, none⟩) 1 1]).toArray TRx) := hX5; have HG5 := Lib.hid hg5; clear hX5 hg5)
    refine bodyPost_ret (results_cell_row rfl _ _ (w.heap.size + 1) TRx _ (0, 0) _ rfl HX5.out.eq Tryz.underlying26 rfl (by rw [sizeRx]; rfl)) rfl ?_
    rw [E.out]
    refine rex_fin rfl rfl HP.out ?_ HBb.out HG5.out (Nat.le_succ _)
    refine RexP.of (k := 7) (s := []) (ks := [r]) ⟨⟨.inl rfl, Nat.le_refl _, by simp⟩, fun a e => by cases e⟩ (KidsP.mk1 MB.out ⟨by rw [HZ.out]; omega, .inr (by rw [HZ.out]; omega)⟩ (HVb.out.mono fun b hb => ⟨fun e => by have := HP.out b hb; omega, .inl hb⟩))

end Go.Proofs.YtfeidjjabjejiaaGreatDoor

/- normStar, of the program and of the reference; given, l4Deep. -/
namespace Go.Proofs.YtfeidjjabjejiaaGreatDoor
set_option linter.unusedSimpArgs false
set_option linter.unusedVariables false
set_option maxRecDepth 100000
open Go.RowKit

set_option maxHeartbeats 1000000 in
theorem iStar_c (r : Rex) (v1 v2 : Value) (w : World) (p : Nat → Prop) (h : RexP w p r (.int .i64 r.kind) v1 v2) (hp : ∀ b, p b → b < w.heap.size) :
    Calls Tryz.prog 99 #[.agg #[.int .i64 r.kind, v1, v2]] w (RexPost p (nStar r) w) := by
  obtain ⟨A, c, K, ck, _, rfl, rfl, hs, hk⟩ := h.parts
  obtain ⟨wa, hwa⟩ : ∃ x, x = (w.alloc (.cells #[.int .i64 r.kind, .slice A r.set.length c, .slice K r.kids.length ck] TRx)).alloc (.cells #[.int .i64 0, nilS, nilS] TRx) := ⟨_, rfl⟩
  have hb : Below w.heap.size w wa := by rw [hwa]; exact below_alloc (below_alloc (Below.refl _ _) _) _
  have m0 : Blk wa w.heap.size #[.int .i64 r.kind, .slice A r.set.length c, .slice K r.kids.length ck] TRx := by rw [hwa]; exact (blk_new w _ _).alloc _
  have m1 : Blk wa (w.heap.size + 1) #[.int .i64 0, nilS, nilS] TRx := by
    rw [hwa]
    have := blk_new (w.alloc (.cells #[.int .i64 r.kind, .slice A r.set.length c, .slice K r.kids.length ck] TRx)) #[.int .i64 0, nilS, nilS] TRx
    simpa using this
  have hz1 : wa.heap.size = w.heap.size + 2 := by rw [hwa]; simp
  have HZ := Lib.hid hz1
  clear hz1
  replace hwa := hwa.symm
  have HV := Lib.hid (h.under hb)
  have HB := Lib.hid hb
  have M0 := Lib.hid m0
  have M1 := Lib.hid m1
  have HP := Lib.hid hp
  have n0 : wa.cell? ⟨w.heap.size, 0, none⟩ = some (.int .i64 r.kind) := by rw [m0.cell]; rfl
  have n1 : wa.cell? ⟨w.heap.size, 1, none⟩ = some (.slice A r.set.length c) := by rw [m0.cell]; rfl
  have n2 : wa.cell? ⟨w.heap.size, 2, none⟩ = some (.slice K r.kids.length ck) := by rw [m0.cell]; rfl
  clear hb m0 m1 hs hk h hp
  by_cases hk : r.kind = 5
  · have E : Hid (nStar r = r) := by show _ = _; rw [nStar, if_pos hk]
    have d5 : (r.kind == 5) = true := by simp [hk]
    clear hk
    go_enter Tryz.func99, Tryz.ntmps99
    go_wp2_with ((with_reducible refine at_st 2 7 ?_); refine ev_store (o := ⟨none, .store _ (.tmp 2) _, _, _, _, _⟩) rfl rfl TRx (.tmp 2) (.tmp 7) rfl (w.heap.size + 1) 0 rfl [.int .i64 r.kind, .slice A r.set.length c, .slice K r.kids.length ck] rfl _ TRx M1.out (sizeRx' _ _ _) (by show 0 + 3 ≤ 3; omega) (three_one _ _ _ _ _ _ _) ?_; intro w5 hX5 hg5; have HX5 : Hid (Blk w5 (w.heap.size + 1) ([.int .i64 r.kind, .slice A r.set.length c, .slice K r.kids.length ck]).toArray TRx) := hX5; have HG5 := Lib.hid hg5; clear hX5 hg5)
    refine bodyPost_ret (results_cell_row rfl _ _ (w.heap.size + 1) TRx _ (0, 0) _ rfl HX5.out.eq Tryz.underlying26 rfl (by rw [sizeRx]; rfl)) rfl ?_
    rw [E.out]
    exact rex_fin rfl rfl HP.out (HV.out.mono fun b hb => ⟨fun e => by have := HP.out b hb; omega, .inl hb⟩) HB.out HG5.out (Nat.le_succ _)
  have d5 : (r.kind == 5) = false := by simp [hk]
  by_cases hk2 : r.kind = 2
  · have E : Hid (nStar r = .mk 2 [] []) := by show _ = _; rw [nStar, if_neg hk, if_pos (.inl hk2)]
    have d2 : (r.kind == 2) = true := by simp [hk2]
    clear hk hk2
    go_enter Tryz.func99, Tryz.ntmps99
    go_wp2_with ((with_reducible refine at_st 2 16 ?_); refine ev_store (o := ⟨none, .store _ (.tmp 2) _, _, _, _, _⟩) rfl rfl TRx (.tmp 2) (.tmp 16) rfl (w.heap.size + 1) 0 rfl [.int .i64 2, nilS, nilS] rfl _ TRx M1.out (sizeRx' _ _ _) (by show 0 + 3 ≤ 3; omega) (three_one _ _ _ _ _ _ _) ?_; intro w5 hX5 hg5; have HX5 : Hid (Blk w5 (w.heap.size + 1) ([.int .i64 2, nilS, nilS]).toArray TRx) := hX5; have HG5 := Lib.hid hg5; clear hX5 hg5)
    refine bodyPost_ret (results_cell_row rfl _ _ (w.heap.size + 1) TRx _ (0, 0) _ rfl HX5.out.eq Tryz.underlying26 rfl (by rw [sizeRx]; rfl)) rfl ?_
    rw [E.out]
    exact rex_fin rfl rfl HP.out (RexP.leaf 2) HB.out HG5.out (Nat.le_succ _)
  have d2 : (r.kind == 2) = false := by simp [hk2]
  by_cases hn : isNo r = true
  · have E : Hid (nStar r = .mk 2 [] []) := by show _ = _; rw [nStar, if_neg hk, if_pos (.inr hn)]
    have HN := Lib.hid hn
    clear hk hk2 hn
    go_enter Tryz.func99, Tryz.ntmps99
    go_wp2_with fail
    clear hwa
    refine (iNo_c _ _ _ _ _ HV.out.rexv).mono ?_
    rintro e w1 ⟨rfl, b1⟩
    rw [HN.out]
    have M11 := Lib.hid (M1.out.below b1)
    have HB1 := Lib.hid (below_then HB.out b1)
    clear n0 n1 n2 b1
    go_wp2_with ((with_reducible refine at_st 2 16 ?_); refine ev_store (o := ⟨none, .store _ (.tmp 2) _, _, _, _, _⟩) rfl rfl TRx (.tmp 2) (.tmp 16) rfl (w.heap.size + 1) 0 rfl [.int .i64 2, nilS, nilS] rfl _ TRx M11.out (sizeRx' _ _ _) (by show 0 + 3 ≤ 3; omega) (three_one _ _ _ _ _ _ _) ?_; intro w5 hX5 hg5; have HX5 : Hid (Blk w5 (w.heap.size + 1) ([.int .i64 2, nilS, nilS]).toArray TRx) := hX5; have HG5 := Lib.hid hg5; clear hX5 hg5)
    refine bodyPost_ret (results_cell_row rfl _ _ (w.heap.size + 1) TRx _ (0, 0) _ rfl HX5.out.eq Tryz.underlying26 rfl (by rw [sizeRx]; rfl)) rfl ?_
    rw [E.out]
    exact rex_fin rfl rfl HP.out (RexP.leaf 2) HB1.out HG5.out (Nat.le_succ _)
  · have HN : Hid (isNo r = false) := by show _ = _; simpa using hn
    have E : Hid (nStar r = .mk 5 [] [r]) := by show _ = _; rw [nStar, if_neg hk, if_neg (by intro h; rcases h with h | h; exact hk2 h; exact hn h)]
    clear hk hk2 hn
    go_enter Tryz.func99, Tryz.ntmps99
    go_wp2_with fail
    clear hwa
    refine (iNo_c _ _ _ _ _ HV.out.rexv).mono ?_
    rintro e w1 ⟨rfl, b1⟩
    rw [HN.out]
    obtain ⟨wb, hwb⟩ : ∃ x, x = w1.alloc (.cells #[.int .i64 r.kind, .slice A r.set.length c, .slice K r.kids.length ck] TRx) := ⟨_, rfl⟩
    have hbb : Below wa.heap.size wa wb := by rw [hwb]; exact below_alloc b1 _
    have mb : Blk wb w1.heap.size #[.int .i64 r.kind, .slice A r.set.length c, .slice K r.kids.length ck] TRx := by rw [hwb]; exact blk_new _ _ _
    have MB := Lib.hid mb
    have M11 := Lib.hid (M1.out.below hbb)
    have M01 := Lib.hid (M0.out.below b1)
    have HVb := Lib.hid (HV.out.under hbb)
    have HBb := Lib.hid (below_then HB.out hbb)
    have HZ1 : Hid (w.heap.size + 2 ≤ w1.heap.size) := by have := b1.size; rw [HZ.out] at this; exact this
    clear n0 n1 n2
    have n0 : w1.cell? ⟨w.heap.size, 0, none⟩ = some (.int .i64 r.kind) := by rw [M01.out.cell]; rfl
    have n1 : w1.cell? ⟨w.heap.size, 1, none⟩ = some (.slice A r.set.length c) := by rw [M01.out.cell]; rfl
    have n2 : w1.cell? ⟨w.heap.size, 2, none⟩ = some (.slice K r.kids.length ck) := by rw [M01.out.cell]; rfl
    replace hwb := hwb.symm
    obtain ⟨gB, hgB⟩ : ∃ g, g = w1.heap.size := ⟨_, rfl⟩
    rw [← hgB] at MB HZ1
    replace hgB := hgB.symm
    clear mb hbb b1
    go_wp2_with ((with_reducible refine at_st 2 19 ?_); refine ev_store (o := ⟨none, .store _ (.tmp 2) _, _, _, _, _⟩) rfl rfl TRx (.tmp 2) (.tmp 19) rfl (w.heap.size + 1) 0 rfl [.int .i64 5, nilS, .slice (some ⟨gB, 0, none⟩) 1 1] rfl _ TRx M11.out (sizeRx' _ _ _) (by show 0 + 3 ≤ 3; omega) (three_one _ _ _ _ _ _ _) ?_; intro w5 hX5 hg5; have HX5 : Hid (Blk w5 (w.heap.size + 1) ([.int .i64 5, nilS, .slice (some ⟨gB, 0, none⟩) 1 1]).toArray TRx) := hX5; have HG5 := Lib.hid hg5; clear hX5 hg5)
    refine bodyPost_ret (results_cell_row rfl _ _ (w.heap.size + 1) TRx _ (0, 0) _ rfl HX5.out.eq Tryz.underlying26 rfl (by rw [sizeRx]; rfl)) rfl ?_
    rw [E.out]
    refine rex_fin rfl rfl HP.out ?_ HBb.out HG5.out (Nat.le_succ _)
    refine RexP.of (k := 5) (s := []) (ks := [r]) ⟨⟨.inl rfl, Nat.le_refl _, by simp⟩, fun a e => by cases e⟩ (KidsP.mk1 MB.out ⟨by have := HZ1.out; omega, .inr (by have := HZ1.out; omega)⟩ (HVb.out.mono fun b hb => ⟨fun e => by have := HP.out b hb; omega, .inl hb⟩))
set_option maxHeartbeats 1000000 in
theorem sStar_c (r : Rex) (v1 v2 : Value) (w : World) (p : Nat → Prop) (h : RexP w p r (.int .i64 r.kind) v1 v2) (hp : ∀ b, p b → b < w.heap.size) :
    Calls Tryz.prog 114 #[.agg #[.int .i64 r.kind, v1, v2]] w (RexPost p (nStar r) w) := by
  obtain ⟨A, c, K, ck, _, rfl, rfl, hs, hk⟩ := h.parts
  obtain ⟨wa, hwa⟩ : ∃ x, x = (w.alloc (.cells #[.int .i64 r.kind, .slice A r.set.length c, .slice K r.kids.length ck] TRx)).alloc (.cells #[.int .i64 0, nilS, nilS] TRx) := ⟨_, rfl⟩
  have hb : Below w.heap.size w wa := by rw [hwa]; exact below_alloc (below_alloc (Below.refl _ _) _) _
  have m0 : Blk wa w.heap.size #[.int .i64 r.kind, .slice A r.set.length c, .slice K r.kids.length ck] TRx := by rw [hwa]; exact (blk_new w _ _).alloc _
  have m1 : Blk wa (w.heap.size + 1) #[.int .i64 0, nilS, nilS] TRx := by
    rw [hwa]
    have := blk_new (w.alloc (.cells #[.int .i64 r.kind, .slice A r.set.length c, .slice K r.kids.length ck] TRx)) #[.int .i64 0, nilS, nilS] TRx
    simpa using this
  have hz1 : wa.heap.size = w.heap.size + 2 := by rw [hwa]; simp
  have HZ := Lib.hid hz1
  clear hz1
  replace hwa := hwa.symm
  have HV := Lib.hid (h.under hb)
  have HB := Lib.hid hb
  have M0 := Lib.hid m0
  have M1 := Lib.hid m1
  have HP := Lib.hid hp
  have n0 : wa.cell? ⟨w.heap.size, 0, none⟩ = some (.int .i64 r.kind) := by rw [m0.cell]; rfl
  have n1 : wa.cell? ⟨w.heap.size, 1, none⟩ = some (.slice A r.set.length c) := by rw [m0.cell]; rfl
  have n2 : wa.cell? ⟨w.heap.size, 2, none⟩ = some (.slice K r.kids.length ck) := by rw [m0.cell]; rfl
  clear hb m0 m1 hs hk h hp
  by_cases hk : r.kind = 5
  · have E : Hid (nStar r = r) := by show _ = _; rw [nStar, if_pos hk]
    have d5 : (r.kind == 5) = true := by simp [hk]
    clear hk
    go_enter Tryz.func114, Tryz.ntmps114
    go_wp2_with ((with_reducible refine at_st 2 7 ?_); refine ev_store (o := ⟨none, .store _ (.tmp 2) _, _, _, _, _⟩) rfl rfl TRx (.tmp 2) (.tmp 7) rfl (w.heap.size + 1) 0 rfl [.int .i64 r.kind, .slice A r.set.length c, .slice K r.kids.length ck] rfl _ TRx M1.out (sizeRx' _ _ _) (by show 0 + 3 ≤ 3; omega) (three_one _ _ _ _ _ _ _) ?_; intro w5 hX5 hg5; have HX5 : Hid (Blk w5 (w.heap.size + 1) ([.int .i64 r.kind, .slice A r.set.length c, .slice K r.kids.length ck]).toArray TRx) := hX5; have HG5 := Lib.hid hg5; clear hX5 hg5)
    refine bodyPost_ret (results_cell_row rfl _ _ (w.heap.size + 1) TRx _ (0, 0) _ rfl HX5.out.eq Tryz.underlying26 rfl (by rw [sizeRx]; rfl)) rfl ?_
    rw [E.out]
    exact rex_fin rfl rfl HP.out (HV.out.mono fun b hb => ⟨fun e => by have := HP.out b hb; omega, .inl hb⟩) HB.out HG5.out (Nat.le_succ _)
  have d5 : (r.kind == 5) = false := by simp [hk]
  by_cases hk2 : r.kind = 2
  · have E : Hid (nStar r = .mk 2 [] []) := by show _ = _; rw [nStar, if_neg hk, if_pos (.inl hk2)]
    have d2 : (r.kind == 2) = true := by simp [hk2]
    clear hk hk2
    go_enter Tryz.func114, Tryz.ntmps114
    go_wp2_with ((with_reducible refine at_st 2 16 ?_); refine ev_store (o := ⟨none, .store _ (.tmp 2) _, _, _, _, _⟩) rfl rfl TRx (.tmp 2) (.tmp 16) rfl (w.heap.size + 1) 0 rfl [.int .i64 2, nilS, nilS] rfl _ TRx M1.out (sizeRx' _ _ _) (by show 0 + 3 ≤ 3; omega) (three_one _ _ _ _ _ _ _) ?_; intro w5 hX5 hg5; have HX5 : Hid (Blk w5 (w.heap.size + 1) ([.int .i64 2, nilS, nilS]).toArray TRx) := hX5; have HG5 := Lib.hid hg5; clear hX5 hg5)
    refine bodyPost_ret (results_cell_row rfl _ _ (w.heap.size + 1) TRx _ (0, 0) _ rfl HX5.out.eq Tryz.underlying26 rfl (by rw [sizeRx]; rfl)) rfl ?_
    rw [E.out]
    exact rex_fin rfl rfl HP.out (RexP.leaf 2) HB.out HG5.out (Nat.le_succ _)
  have d2 : (r.kind == 2) = false := by simp [hk2]
  by_cases hn : isNo r = true
  · have E : Hid (nStar r = .mk 2 [] []) := by show _ = _; rw [nStar, if_neg hk, if_pos (.inr hn)]
    have HN := Lib.hid hn
    clear hk hk2 hn
    go_enter Tryz.func114, Tryz.ntmps114
    go_wp2_with fail
    clear hwa
    refine (sNo_c _ _ _ _ _ HV.out.rexv).mono ?_
    rintro e w1 ⟨rfl, b1⟩
    rw [HN.out]
    have M11 := Lib.hid (M1.out.below b1)
    have HB1 := Lib.hid (below_then HB.out b1)
    clear n0 n1 n2 b1
    go_wp2_with ((with_reducible refine at_st 2 16 ?_); refine ev_store (o := ⟨none, .store _ (.tmp 2) _, _, _, _, _⟩) rfl rfl TRx (.tmp 2) (.tmp 16) rfl (w.heap.size + 1) 0 rfl [.int .i64 2, nilS, nilS] rfl _ TRx M11.out (sizeRx' _ _ _) (by show 0 + 3 ≤ 3; omega) (three_one _ _ _ _ _ _ _) ?_; intro w5 hX5 hg5; have HX5 : Hid (Blk w5 (w.heap.size + 1) ([.int .i64 2, nilS, nilS]).toArray TRx) := hX5; have HG5 := Lib.hid hg5; clear hX5 hg5)
    refine bodyPost_ret (results_cell_row rfl _ _ (w.heap.size + 1) TRx _ (0, 0) _ rfl HX5.out.eq Tryz.underlying26 rfl (by rw [sizeRx]; rfl)) rfl ?_
    rw [E.out]
    exact rex_fin rfl rfl HP.out (RexP.leaf 2) HB1.out HG5.out (Nat.le_succ _)
  · have HN : Hid (isNo r = false) := by show _ = _; simpa using hn
    have E : Hid (nStar r = .mk 5 [] [r]) := by show _ = _; rw [nStar, if_neg hk, if_neg (by intro h; rcases h with h | h; exact hk2 h; exact hn h)]
    clear hk hk2 hn
    go_enter Tryz.func114, Tryz.ntmps114
    go_wp2_with fail
    clear hwa
    refine (sNo_c _ _ _ _ _ HV.out.rexv).mono ?_
    rintro e w1 ⟨rfl, b1⟩
    rw [HN.out]
    obtain ⟨wb, hwb⟩ : ∃ x, x = w1.alloc (.cells #[.int .i64 r.kind, .slice A r.set.length c, .slice K r.kids.length ck] TRx) := ⟨_, rfl⟩
    have hbb : Below wa.heap.size wa wb := by rw [hwb]; exact below_alloc b1 _
    have mb : Blk wb w1.heap.size #[.int .i64 r.kind, .slice A r.set.length c, .slice K r.kids.length ck] TRx := by rw [hwb]; exact blk_new _ _ _
    have MB := Lib.hid mb
    have M11 := Lib.hid (M1.out.below hbb)
    have M01 := Lib.hid (M0.out.below b1)
    have HVb := Lib.hid (HV.out.under hbb)
    have HBb := Lib.hid (below_then HB.out hbb)
    have HZ1 : Hid (w.heap.size + 2 ≤ w1.heap.size) := by have := b1.size; rw [HZ.out] at this; exact this
    clear n0 n1 n2
    have n0 : w1.cell? ⟨w.heap.size, 0, none⟩ = some (.int .i64 r.kind) := by rw [M01.out.cell]; rfl
    have n1 : w1.cell? ⟨w.heap.size, 1, none⟩ = some (.slice A r.set.length c) := by rw [M01.out.cell]; rfl
    have n2 : w1.cell? ⟨w.heap.size, 2, none⟩ = some (.slice K r.kids.length ck) := by rw [M01.out.cell]; rfl
    replace hwb := hwb.symm
    obtain ⟨gB, hgB⟩ : ∃ g, g = w1.heap.size := ⟨_, rfl⟩
    rw [← hgB] at MB HZ1
    replace hgB := hgB.symm
    clear mb hbb b1
    go_wp2_with ((with_reducible refine at_st 2 19 ?_); refine ev_store (o := ⟨none, .store _ (.tmp 2) _, _, _, _, _⟩) rfl rfl TRx (.tmp 2) (.tmp 19) rfl (w.heap.size + 1) 0 rfl [.int .i64 5, nilS, .slice (some ⟨gB, 0, none⟩) 1 1] rfl _ TRx M11.out (sizeRx' _ _ _) (by show 0 + 3 ≤ 3; omega) (three_one _ _ _ _ _ _ _) ?_; intro w5 hX5 hg5; have HX5 : Hid (Blk w5 (w.heap.size + 1) ([.int .i64 5, nilS, .slice (some ⟨gB, 0, none⟩) 1 1]).toArray TRx) := hX5; have HG5 := Lib.hid hg5; clear hX5 hg5)
    refine bodyPost_ret (results_cell_row rfl _ _ (w.heap.size + 1) TRx _ (0, 0) _ rfl HX5.out.eq Tryz.underlying26 rfl (by rw [sizeRx]; rfl)) rfl ?_
    rw [E.out]
    refine rex_fin rfl rfl HP.out ?_ HBb.out HG5.out (Nat.le_succ _)
    refine RexP.of (k := 5) (s := []) (ks := [r]) ⟨⟨.inl rfl, Nat.le_refl _, by simp⟩, fun a e => by cases e⟩ (KidsP.mk1 MB.out ⟨by have := HZ1.out; omega, .inr (by have := HZ1.out; omega)⟩ (HVb.out.mono fun b hb => ⟨fun e => by have := HP.out b hb; omega, .inl hb⟩))

theorem sDeep_c (r : Rex) (v1 v2 : Value) (w : World) (lo : Nat) (h : RexV w lo r (.int .i64 r.kind) v1 v2) :
    Calls Tryz.prog 95 #[.agg #[.int .i64 r.kind, v1, v2]] w fun e w' => e = .returned (.bool (formed 60 r)) ∧ Below w.heap.size w w' := by
  obtain ⟨A, c, K, ck, _, rfl, rfl, _, _⟩ := h.parts
  have HV := Lib.hid h
  have hb := below_alloc (Below.refl w.heap.size w) (.cells #[.int .i64 r.kind, .slice A r.set.length c, .slice K r.kids.length ck] TRx)
  have HB := Lib.hid hb
  clear h hb
  go_enter Tryz.func95, Tryz.ntmps95
  go_wp2_with fail
  refine (sForm_c r 60 _ _ _ _ (by omega) (HV.out.under HB.out)).mono ?_
  rintro e w1 ⟨rfl, b1⟩
  go_wp2
  go_ret
  exact ⟨rfl, below_then HB.out b1⟩

set_option maxHeartbeats 1000000 in
theorem iGiven_c (ks : List Rex) (K : Option Addr) (ck : Nat) (w : World) (lo : Nat) (h : Kids w lo K ck ks) :
    Calls Tryz.prog 65 #[.slice K ks.length ck] w fun e w' => e = .returned (.bool (ks.all (formed 60))) ∧ Below w.heap.size w w' := by
  have hlen := h.len
  unfold maxN at hlen
  have HK := Lib.hid h
  clear h
  go_enter Tryz.func65, Tryz.ntmps65
  go_wp2
  go_loopg [7] (ks.length) (fun n i wr => ∃ j : Nat, j + n = ks.length ∧ i = .int .i64 j ∧ Hid ((ks.drop j).all (formed 60) = ks.all (formed 60)) ∧ Hid (Below w.heap.size w wr))
  case atStart => exact ⟨0, by omega, rfl, by rw [List.drop_zero]; rfl, Below.refl _ _⟩
  case round =>
    obtain ⟨j, hj, rfl, HF, HW⟩ := hrel
    by_cases hlt : j < ks.length
    · obtain ⟨a, r, x1, x2, rfl, HX, HD, HV, c0, c1, c2⟩ := (HK.out.below HW.out).at_ j hlt
      obtain ⟨A1, d1, K1, e1, _, rfl, rfl, _⟩ := HV.out.parts
      have E2 : Hid ((ks.drop j).all (formed 60) = (formed 60 r && (ks.drop (j + 1)).all (formed 60))) := by show _ = _; rw [HD.out, List.all_cons]
      have hb2 := below_alloc (Below.refl wr.heap.size wr) (.cells #[.int .i64 r.kind, .slice A1 r.set.length d1, .slice K1 r.kids.length e1] TRx)
      have HV2 := Lib.hid (HV.out.under hb2)
      have HW2 := Lib.hid (below_then HW.out hb2)
      clear hb2
      go_wp2_with fail
      refine (iForm_c r 60 _ _ _ _ (by omega) HV2.out).mono ?_
      rintro e w4 ⟨rfl, b4⟩
      have HW4 := Lib.hid (below_then HW2.out b4)
      clear b4 c0 c1 c2
      by_cases hf : formed 60 r = true
      · have HQ := Lib.hid hf
        rw [hf]
        clear hf
        go_wp2
        go_roundg (gk - 1)
        case rel => exact ⟨j + 1, by omega, by go_num, by have := HF.out; rw [E2.out, HQ.out] at this; exact this, HW4⟩
        case measure => omega
      · have HQ : Hid (formed 60 r = false) := by show _ = _; simpa using hf
        rw [HQ.out]
        clear hf
        go_wp2
        go_ret
        exact ⟨ret_bool (by rw [← HF.out, E2.out, HQ.out]; rfl), HW4.out⟩
    · go_wp2
      go_ret
      exact ⟨ret_bool (by rw [← HF.out, List.drop_of_length_le (by omega)]; rfl), HW.out⟩

end Go.Proofs.YtfeidjjabjejiaaGreatDoor
