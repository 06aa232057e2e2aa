/- Marks in trees, and whether they are held. -/
import Derived.Test.YtiaccimbkghofaaOwnT
namespace Go.Proofs.Ytiaccimbkghofaa
set_option linter.unusedSimpArgs false
set_option linter.unusedVariables false
open Go.RowKit

mutual
/-- how many numbers a tree holds in memory -/
def Rex.cnt : Rex → Nat
  | .mk _ s ks => 2 * s.length + cntL ks
def cntL : List Rex → Nat
  | [] => 0
  | r :: rs => (1 + r.cnt) + cntL rs
end
mutual
def markN : Int → Rex → Rex
  | q, .mk _ s ks => .mk q (markSps (q + 1) s) (markL (q + 1 + 2 * (s.length : Int)) ks)
def markL : Int → List Rex → List Rex
  | _, [] => []
  | q, r :: rs => markN q r :: markL (q + (1 + (r.cnt : Int))) rs
end
def markT (q : Int) (r : Rex) : Rex := .mk r.kind (markSps q r.set) (markL (q + 2 * (r.set.length : Int)) r.kids)
theorem markN_of (q : Int) (r : Rex) : markN q r = .mk q (markSps (q + 1) r.set) (markL (q + 1 + 2 * (r.set.length : Int)) r.kids) := by cases r; rw [markN]; rfl
theorem cnt_of (r : Rex) : r.cnt = 2 * r.set.length + cntL r.kids := by cases r; rw [Rex.cnt]; rfl
theorem markL_length : ∀ (ks : List Rex) (q : Int), (markL q ks).length = ks.length
  | [], q => by rw [markL]
  | r :: rs, q => by rw [markL, List.length_cons, List.length_cons, markL_length rs]
theorem markL_drop : ∀ (ks : List Rex) (q : Int) (j : Nat), (markL q ks).drop j = markL (q + cntL (ks.take j)) (ks.drop j)
  | ks, q, 0 => by simp [cntL]
  | [], q, j + 1 => by simp [markL, cntL]
  | r :: rs, q, j + 1 => by
    rw [markL, List.drop_succ_cons, markL_drop rs _ j, List.drop_succ_cons, List.take_succ_cons, cntL]
    congr 1
    omega
theorem markL_get {ks : List Rex} {q : Int} {j : Nat} {r : Rex} (h : ks[j]? = some r) : (markL q ks)[j]? = some (markN (q + cntL (ks.take j)) r) := by
  have hj := (List.getElem?_eq_some_iff.1 h).1
  have e : (markL q ks)[j]? = ((markL q ks).drop j)[0]? := by rw [List.getElem?_drop]; simp
  rw [e, markL_drop, List.drop_eq_getElem_cons hj, markL]
  have : ks[j] = r := by rw [List.getElem?_eq_getElem hj] at h; exact Option.some.inj h
  rw [this]
  rfl
theorem cntL_take {ks : List Rex} {j : Nat} {r : Rex} (h : ks[j]? = some r) : cntL (ks.take (j + 1)) = cntL (ks.take j) + (1 + r.cnt) := by
  induction ks generalizing j with
  | nil => simp at h
  | cons x xs ih =>
    cases j with
    | zero => simp at h; subst h; simp [cntL]
    | succ j => rw [List.take_succ_cons, cntL, ih (by simpa using h), List.take_succ_cons, cntL]; omega
theorem cntL_take_le (ks : List Rex) (j : Nat) : cntL (ks.take j) ≤ cntL ks := by
  induction ks generalizing j with
  | nil => simp [cntL]
  | cons x xs ih => cases j with
    | zero => simp [cntL]
    | succ j => rw [List.take_succ_cons, cntL, cntL]; have := ih j; omega
theorem mix_step {α : Type} (M ks : List α) (j : Nat) (r r' : α) (h : ks[j]? = some r) (h' : M[j]? = some r') (hl : M.length = ks.length) : (M.take j ++ ks.drop j).set j r' = M.take (j + 1) ++ ks.drop (j + 1) := by
  have hj := (List.getElem?_eq_some_iff.1 h).1
  have e : (M.take j).length = j := by rw [List.length_take]; omega
  rw [List.drop_eq_getElem_cons hj, List.set_append, if_neg (by omega), e, Nat.sub_self, List.set_cons_zero, List.take_add_one, h']
  simp
theorem mix_get {α : Type} (M ks : List α) (j : Nat) (hj : j < ks.length) (hl : M.length = ks.length) : (M.take j ++ ks.drop j)[j]? = ks[j]? := by
  have e : (M.take j).length = j := by rw [List.length_take]; omega
  rw [List.getElem?_append_right (by omega), e, Nat.sub_self, List.getElem?_drop]
  simp
theorem mix_length {α : Type} (M ks : List α) (j : Nat) (hl : M.length = ks.length) (hj : j ≤ ks.length) : (M.take j ++ ks.drop j).length = ks.length := by
  rw [List.length_append, List.length_take, List.length_drop]; omega

/-- an element of a row of trees that a call made -/
theorem OwnK.at_ {w : World} {fk : List Nat} {ks : List Rex} {K : Option Addr} {n ck : Nat} {L : List KInfo} (h : OwnK w fk ks (.slice K n ck) L) (j : Nat) {r : Rex} (hr : ks[j]? = some r) :
    ∃ g A c K' ck' fp, K = some ⟨g, 0, none⟩ ∧ Hid (L[j]? = some ⟨fp, .slice A r.set.length c, .slice K' r.kids.length ck'⟩) ∧ Hid (OwnT w fp r (.slice A r.set.length c) (.slice K' r.kids.length ck')) ∧
      w.cell? ⟨g, j * 3, none⟩ = some (.int .i64 r.kind) ∧ w.cell? ⟨g, j * 3 + 1, none⟩ = some (.slice A r.set.length c) ∧ w.cell? ⟨g, j * 3 + 2, none⟩ = some (.slice K' r.kids.length ck') ∧ w.frozen? ⟨g, j * 3, none⟩ = false := by
  obtain ⟨hL, hk, hn, hrr, fe, nd⟩ := h
  have hj := (List.getElem?_eq_some_iff.1 hr).1
  obtain ⟨x, hx⟩ : ∃ x, L[j]? = some x := ⟨L[j]'(by omega), List.getElem?_eq_getElem _⟩
  have hT := hrr j r x hr hx
  obtain ⟨g0, g1, g2⟩ := kcells_get ks L j r x hr hx hL
  obtain ⟨L', fk', _, _, hs, hk'⟩ := hT.parts
  obtain ⟨A, c, e1, _⟩ := hs.sps
  obtain ⟨K', ck', e2, _, _⟩ := own_row hk'.hk
  rcases hk.2 with ⟨_, h0⟩ | ⟨g, cap, cur, e, hg, hh, r2⟩
  · omega
  · injection e with ea eb ec
    subst ea eb ec
    obtain ⟨fp, y1, y2⟩ := x
    dsimp only at e1 e2 hT g1 g2
    subst e1 e2
    have hlen := kcells_length ks L hL
    exact ⟨g, A, c, K', ck', fp, rfl, hx, hT, (hk.cellAt _ (by omega)).trans g0, (hk.cellAt _ (by omega)).trans g1, (hk.cellAt _ (by omega)).trans g2, hk.frozenAt _⟩
theorem kcells_set : ∀ (rs : List Rex) (L : List KInfo) (j : Nat) (r : Rex) (q : Int) (s : List Sp) (ks : List Rex), rs[j]? = some r → rs.length = L.length → (kcells rs L).set (j * 3) (.int .i64 q) = kcells (rs.set j (.mk q s ks)) L
  | [], _, j, r, q, s, ks, h, _ => by simp at h
  | r' :: rs, [], j, r, q, s, ks, _, h => by simp at h
  | r' :: rs, x :: L, 0, r, q, s, ks, h, hl => by simp [kcells, kcell, Rex.kind]
  | r' :: rs, x :: L, j + 1, r, q, s, ks, h, hl => by
    have := kcells_set rs L j r q s ks (by simpa using h) (by simpa using hl)
    rw [show (j + 1) * 3 = j * 3 + 1 + 1 + 1 by omega]
    simp only [kcells, kcell, List.cons_append, List.nil_append, List.set_cons_succ, this]
theorem kcells_same : ∀ (rs : List Rex) (L : List KInfo) (j : Nat) (r r' : Rex), rs[j]? = some r → r'.kind = r.kind → kcells (rs.set j r') L = kcells rs L
  | [], _, j, r, r', h, _ => by simp at h
  | r0 :: rs, [], j, r, r', _, _ => by cases j <;> simp [kcells]
  | r0 :: rs, x :: L, 0, r, r', h, e => by simp at h; subst h; simp [kcells, kcell, e]
  | r0 :: rs, x :: L, j + 1, r, r', h, e => by
    have := kcells_same rs L j r r' (by simpa using h) e
    simp only [List.set_cons_succ, kcells, this]
theorem vblk_of_some {g n c : Nat} : vblk (.slice (some ⟨g, 0, none⟩) n c) = [g] := rfl
/-- a kind is stored -/
theorem OwnK.set_kind {w : World} {fk : List Nat} {ks : List Rex} {g n ck : Nat} {L : List KInfo} (h : OwnK w fk ks (.slice (some ⟨g, 0, none⟩) n ck) L) (j : Nat) {r : Rex} (hr : ks[j]? = some r) (q : Int) :
    OwnK (w.setCell ⟨g, j * 3, none⟩ (.int .i64 q)) fk (ks.set j (.mk q r.set r.kids)) (.slice (some ⟨g, 0, none⟩) n ck) L := by
  obtain ⟨hL, hk, hn, hrr, fe, nd⟩ := h
  have hl : (ks.set j (.mk q r.set r.kids)).length = ks.length := List.length_set
  have en : n = ks.length := by
    rcases hk.2 with ⟨h0, _⟩ | ⟨g', cap', cur, h0, _⟩
    · simp at h0
    · simp at h0; exact h0.2.1
  subst en
  have s1 := (hk.stored (j * 3) (.int .i64 q)).1
  rw [kcells_set ks L j r q r.set r.kids hr hL] at s1
  refine ⟨by rw [hl]; exact hL, by rw [hl]; exact s1, by rw [hl]; exact hn, fun i r' x hi hx => ?_, fe, nd⟩
  have stay : ∀ {r0 : Rex}, OwnT w x.fp r0 x.v1 x.v2 → OwnT (w.setCell ⟨g, j * 3, none⟩ (.int .i64 q)) x.fp r0 x.v1 x.v2 := fun hT => hT.stay fun b hb => by
    refine Below.heap_setCell _ _ _ _ fun e => ?_
    rw [fe, vblk_of_some] at nd
    exact (List.nodup_cons.1 nd).1 (by have := mem_fps.2 ⟨i, x, hx, hb⟩; rw [show b = g from e] at this; exact this)
  rw [List.getElem?_set] at hi
  split at hi
  · rename_i e
    subst e
    split at hi
    · injection hi with hi
      subst hi
      have hT := hrr j r x hr hx
      obtain ⟨L', fk', e1, e2, hs, hk'⟩ := hT.parts
      have hN := OwnT.of (k := q) hs hk' (by rw [← e1]; exact e2)
      rw [← e1] at hN
      exact stay hN
    · cases hi
  · exact stay (hrr i r' x hi hx)
/-- a kid is turned in its own blocks -/
theorem OwnK.set_kid {w w' : World} {fk : List Nat} {ks : List Rex} {v2 : Value} {L : List KInfo} (h : OwnK w fk ks v2 L) (j : Nat) {r r' : Rex} {x : KInfo} (hr : ks[j]? = some r) (hx : L[j]? = some x) (ht : Touch x.fp w w') (ho : OwnT w' x.fp r' x.v1 x.v2) (hk : r'.kind = r.kind) :
    OwnK w' fk (ks.set j r') v2 L := by
  have hlt := h.lt
  obtain ⟨hL, hkk, hn, hrr, fe, nd⟩ := h
  have hl : (ks.set j r').length = ks.length := List.length_set
  rw [fe] at nd hlt
  obtain ⟨nd1, nd2, nd3⟩ := List.nodup_append.1 nd
  refine ⟨by rw [hl]; exact hL, by rw [hl, kcells_same ks L j r r' hr hk]; exact own_move hkk fun g hg => ht.block g (hkk.lt g hg).2 fun h2 => nd3 g (mem_vblk.2 hg) g (mem_fps.2 ⟨j, x, hx, h2⟩) rfl, by rw [hl]; exact hn, fun i r0 y hi hy => ?_, fe, by rw [fe]; exact nd⟩
  rw [List.getElem?_set] at hi
  split at hi
  · rename_i e
    subst e
    split at hi
    · injection hi with hi
      subst hi
      rw [hx] at hy
      injection hy with hy
      subst hy
      exact ho
    · cases hi
  · rename_i hne
    have hT := hrr i r0 y hi hy
    refine hT.stay fun b hb => ht.block b (hT.lt b hb) fun h2 => ?_
    -- two kids have no block in common
    have key : ∀ (M : List KInfo) (i j : Nat) (x y : KInfo), (fps M).Nodup → M[i]? = some x → M[j]? = some y → i ≠ j → ∀ b, b ∈ x.fp → b ∈ y.fp → False := by
      intro M
      induction M with
      | nil => intro i j x y _ h; simp at h
      | cons z M ih =>
        intro i j x y hn hi hj hij b h1 h2
        rw [fps_cons] at hn
        obtain ⟨n1, n2, n3⟩ := List.nodup_append.1 hn
        cases i with
        | zero =>
          cases j with
          | zero => exact hij rfl
          | succ j => simp at hi hj; subst hi; exact n3 b h1 b (mem_fps.2 ⟨j, y, hj, h2⟩) rfl
        | succ i =>
          cases j with
          | zero => simp at hi hj; subst hj; exact n3 b h2 b (mem_fps.2 ⟨i, x, hi, h1⟩) rfl
          | succ j => exact ih i j x y n2 (by simpa using hi) (by simpa using hj) (by omega) b h1 h2
    exact key L j i x y nd2 hx hy hne b h2 hb
end Go.Proofs.Ytiaccimbkghofaa
