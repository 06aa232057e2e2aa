/- Texts joined for the claims: SS2 SS3 Ap Cs T4 T7 T8 T5 T6 T6p. -/
import Derived.Test.YtplhbjpkkhhilaaG2
import Derived.Maps.AppendAt
import Derived.Deep.AppendLies
import Derived.Deep.RegionLaw
import Derived.Test.YtplhbjpkkhhilaaG1
/- Lists of sets in memory: marks and holds. -/
namespace Go.Proofs.Ytplhbjpkkhhilaa
set_option linter.unusedSimpArgs false
set_option linter.unusedVariables false
open Go.RowKit

def markSS (q : Int) : List (List Sp) → List (List Sp)
  | [] => []
  | xs :: r => markSps q xs :: markSS (q + 2 * (xs.length : Int)) r
def cntSS : List (List Sp) → Nat
  | [] => 0
  | xs :: r => 2 * xs.length + cntSS r
theorem markSS_length : ∀ (xss : List (List Sp)) (q : Int), (markSS q xss).length = xss.length
  | [], _ => rfl
  | xs :: r, q => by rw [markSS, List.length_cons, List.length_cons, markSS_length r]
theorem cntSS_take : ∀ (xss : List (List Sp)) (j : Nat) {xs : List Sp}, xss[j]? = some xs → cntSS (xss.take (j + 1)) = cntSS (xss.take j) + 2 * xs.length
  | [], j, xs, h => by simp at h
  | x :: r, 0, xs, h => by
    simp at h
    subst h
    simp [cntSS]
  | x :: r, j + 1, xs, h => by
    have := cntSS_take r j (xs := xs) (by simpa using h)
    rw [List.take_succ_cons, List.take_succ_cons, cntSS, cntSS, this]
    omega
theorem cntSS_take_le : ∀ (xss : List (List Sp)) (j : Nat), cntSS (xss.take j) ≤ cntSS xss
  | [], j => by simp
  | x :: r, 0 => by simp [cntSS]
  | x :: r, j + 1 => by
    have := cntSS_take_le r j
    rw [List.take_succ_cons, cntSS, cntSS]
    omega
theorem markSS_get : ∀ (xss : List (List Sp)) (j : Nat) (q : Int) {xs : List Sp}, xss[j]? = some xs → (markSS q xss)[j]? = some (markSps (q + (cntSS (xss.take j) : Int)) xs)
  | [], j, q, xs, h => by simp at h
  | x :: r, 0, q, xs, h => by
    simp at h
    subst h
    simp [markSS, cntSS]
  | x :: r, j + 1, q, xs, h => by
    have := markSS_get r j (q + 2 * (x.length : Int)) (xs := xs) (by simpa using h)
    rw [markSS, List.getElem?_cons_succ, this, List.take_succ_cons, cntSS]
    congr 2
    omega

/-- a row of sets that a call made: each in a block of its own -/
structure OwnSS (w : World) (fp : List Nat) (v : Value) (xss : List (List Sp)) (L : List Value) : Prop where
  hL : xss.length = L.length
  hk : w.ownsRow 0 TSS 1 v xss.length L
  hn : xss.length ≤ maxN
  hr : ∀ (i : Nat) (xs : List Sp) (x : Value), xss[i]? = some xs → L[i]? = some x → OwnSp w 0 x xs
  fe : fp = vblk v ++ L.flatMap vblk
  nd : fp.Nodup
theorem mem_vbs {L : List Value} {b : Nat} : b ∈ L.flatMap vblk ↔ ∃ (i : Nat) (x : Value), L[i]? = some x ∧ b ∈ vblk x := by
  rw [List.mem_flatMap]
  constructor
  · rintro ⟨x, hx, hb⟩
    obtain ⟨i, hi⟩ := List.getElem?_of_mem hx
    exact ⟨i, x, hi, hb⟩
  · rintro ⟨i, x, hi, hb⟩
    exact ⟨x, List.mem_of_getElem? hi, hb⟩
theorem OwnSS.stay {w w' : World} {fp : List Nat} {v : Value} {xss : List (List Sp)} {L : List Value} (h : OwnSS w fp v xss L) (hm : ∀ b, b ∈ fp → w'.heap[b]? = w.heap[b]?) : OwnSS w' fp v xss L := by
  obtain ⟨hL, hk, hn, hr, fe, nd⟩ := h
  refine ⟨hL, own_move hk fun g hg => hm g (by simp [fe, mem_vblk.2 hg]), hn, fun i r x hi hx => (hr i r x hi hx).stay fun b hb => hm b ?_, fe, nd⟩
  rw [fe]
  exact List.mem_append_right _ (mem_vbs.2 ⟨i, x, hx, hb⟩)
theorem OwnSS.lt {w : World} {fp : List Nat} {v : Value} {xss : List (List Sp)} {L : List Value} (h : OwnSS w fp v xss L) : ∀ b, b ∈ fp → b < w.heap.size := by
  intro b hb
  rw [h.fe] at hb
  rcases List.mem_append.1 hb with hb | hb
  · exact (h.hk.lt b (mem_vblk.1 hb)).2
  · obtain ⟨i, x, hx, hb⟩ := mem_vbs.1 hb
    have hi := (List.getElem?_eq_some_iff.1 hx).1
    have hL := h.hL
    exact ((h.hr i (xss[i]'(by omega)) x (List.getElem?_eq_getElem _) hx).lt b hb).2
theorem OwnSS.under {w w' : World} {fp : List Nat} {v : Value} {xss : List (List Sp)} {L : List Value} (h : OwnSS w fp v xss L) (hb : Below w.heap.size w w') : OwnSS w' fp v xss L := h.stay fun b hb' => hb.block b (h.lt b hb')

end Go.Proofs.Ytplhbjpkkhhilaa

/- markSpanSS. -/
namespace Go.Proofs.Ytplhbjpkkhhilaa
set_option linter.unusedSimpArgs false
set_option linter.unusedVariables false
open Go.RowKit

theorem flat_apart {α : Type} {f : α → List Nat} : ∀ (M : List α) (i j : Nat) (x y : α), (M.flatMap f).Nodup → M[i]? = some x → M[j]? = some y → i ≠ j → ∀ b, b ∈ f x → b ∈ f y → False
  | [], i, j, x, y, _, h, _, _, _, _, _ => by simp at h
  | z :: M, 0, 0, x, y, _, _, _, hij, _, _, _ => hij rfl
  | z :: M, 0, j + 1, x, y, hn, hi, hj, _, b, h1, h2 => by
    rw [List.flatMap_cons] at hn
    simp at hi hj
    subst hi
    exact (List.nodup_append.1 hn).2.2 b h1 b (List.mem_flatMap.2 ⟨y, List.mem_of_getElem? hj, h2⟩) rfl
  | z :: M, i + 1, 0, x, y, hn, hi, hj, _, b, h1, h2 => by
    rw [List.flatMap_cons] at hn
    simp at hi hj
    subst hj
    exact (List.nodup_append.1 hn).2.2 b h2 b (List.mem_flatMap.2 ⟨x, List.mem_of_getElem? hi, h1⟩) rfl
  | z :: M, i + 1, j + 1, x, y, hn, hi, hj, hij, b, h1, h2 => by
    rw [List.flatMap_cons] at hn
    simp at hi hj
    exact flat_apart M i j x y (List.nodup_append.1 hn).2.1 hi hj (fun e => hij (by rw [e])) b h1 h2

theorem OwnSS.at_ {w : World} {fp : List Nat} {K : Option Addr} {n ck : Nat} {xss : List (List Sp)} {L : List Value} (h : OwnSS w fp (.slice K n ck) xss L) (i : Nat) {xs : List Sp} (hi : xss[i]? = some xs) :
    ∃ a A c, K = some a ∧ Hid (L[i]? = some (.slice A xs.length c)) ∧ Hid (OwnSp w 0 (.slice A xs.length c) xs) ∧ w.cell? (a.add i) = some (.slice A xs.length c) := by
  have hl := (List.getElem?_eq_some_iff.1 hi).1
  have hL := h.hL
  have hx : L[i]? = some L[i] := List.getElem?_eq_getElem (by omega)
  have ho := h.hr i xs _ hi hx
  obtain ⟨A, c, e, _⟩ := ho.sps
  obtain ⟨K', c', e2, _, hr⟩ := own_row h.hk
  injection e2 with e2
  subst e2
  rw [e] at ho hx
  rcases hr with h0 | ⟨a, rfl, _, hc⟩
  · rw [h0] at hx; simp at hx
  · exact ⟨a, A, c, rfl, hx, ho, hc i _ hx⟩
theorem OwnSS.ssv {w : World} {fp : List Nat} {v : Value} {xss : List (List Sp)} {L : List Value} (h : OwnSS w fp v xss L) : ∃ K ck, v = .slice K xss.length ck ∧ SSV w 0 K ck xss := by
  obtain ⟨K, ck, e, hck, hr⟩ := own_row h.hk
  subst e
  refine ⟨K, ck, rfl, fun i xs hi => ?_, hck, h.hn⟩
  obtain ⟨a, A, c, e, _, ho, hc⟩ := h.at_ i hi
  exact ⟨a, A, c, e, Nat.zero_le _, hc, ho.out.row⟩
theorem OwnSS.set {w w' : World} {fp : List Nat} {v : Value} {xss : List (List Sp)} {L : List Value} (h : OwnSS w fp v xss L) (j : Nat) {x : Value} {ys : List Sp} (hx : L[j]? = some x) (ht : Touch (vblk x) w w') (ho : OwnSp w' 0 x ys) :
    OwnSS w' fp v (xss.set j ys) L := by
  have hlt := h.lt
  obtain ⟨hL, hkk, hn, hrr, fe, nd⟩ := h
  have hl : (xss.set j ys).length = xss.length := List.length_set
  rw [fe] at nd hlt
  obtain ⟨nd1, nd2, nd3⟩ := List.nodup_append.1 nd
  refine ⟨by rw [hl]; exact hL, by rw [hl]; exact own_move hkk fun g hg => ht.block g (hkk.lt g hg).2 fun h2 => nd3 g (mem_vblk.2 hg) g (mem_vbs.2 ⟨j, x, hx, h2⟩) rfl, by rw [hl]; exact hn, fun i r0 y hi hy => ?_, fe, by rw [fe]; exact nd⟩
  rw [List.getElem?_set] at hi
  split at hi
  · rename_i e
    subst e
    split at hi
    · injection hi with hi
      subst hi
      rw [hx] at hy
      injection hy with hy
      subst hy
      exact ho
    · cases hi
  · rename_i hne
    have hT := hrr i r0 y hi hy
    exact hT.stay fun b hb => ht.block b (hT.lt b hb).2 fun h2 => flat_apart L i j y x nd2 hy hx (fun e => hne e.symm) b hb h2

end Go.Proofs.Ytplhbjpkkhhilaa

/- append, of a row that may be nil; laws for regions that draw their order. -/
namespace Go.Proofs.Ytplhbjpkkhhilaa
set_option linter.unusedSimpArgs false
set_option linter.unusedVariables false
open Go.RowKit

section
variable {P : Program} {w : World}
theorem run_append_row (base : Nat) (t ty e : TypeId) (i : TypeInfo) (z : Value) (size bytes : Nat) (ht : P.underlying t = some (.slice e)) (hi : P.info? e = some i) (hz : i.zero = some z)
    (hsize : i.size = size) (hby : i.bytes = bytes) (hzs : z.cells.size = size) (hsz : 0 < size)
    (v : Value) (n : Nat) (xs : List Value) (hown : w.ownsRow base e size v n xs)
    (A : Option Addr) (m c : Nat) (news : List Value) {lo : Nat} (hrow : Row w lo A news) (hl : news.length = m * size) (h1 : ∀ u ∈ news, u.oneCell' = true)
    (h63 : n + m ≤ maxLen) (hbytes : (n + m) * bytes ≤ 140737488355328) (hbase : base ≤ w.heap.size) :
    ∃ A' c' w', (Builtin.append_ #[t, t] ty #[v, .slice A m c]).run P w = .ok (.slice A' (n + m) c') w' ∧ w'.ownsRow base e size (.slice A' (n + m) c') (n + m) (xs ++ news) ∧ w.grownBy w' v.ownBlock ∧
      ∀ b, b ∈ vblk (.slice A' (n + m) c') → b ∈ vblk v ∨ b = w.heap.size := by
  cases A with
  | some ad =>
    have hcells : ∀ j u, news[j]? = some u → w.cell? (ad.add j) = some u := by
      rcases hrow with rfl | ⟨a, e', _, hc⟩
      · intro j u h; simp at h
      · injection e' with e'; subst e'; exact hc
    obtain ⟨v', w', hr, ho, hg, _, hb⟩ := run_append_own_at (P := P) w base t ty e i z size bytes ht hi hz hsize hby hzs hsz v n xs hown ad m c news hl hcells h1 h63 hbytes hbase
    obtain ⟨A', c', rfl, _⟩ := own_row ho
    refine ⟨A', c', w', hr, ho, hg, fun b h => ?_⟩
    rw [mem_vblk] at h
    rcases hb with hb | hb
    · exact .inl (mem_vblk.2 (hb ▸ h))
    · right; rw [hb] at h; injection h with h; exact h.symm
  | none =>
    have hn : news = [] := by
      rcases hrow with h | ⟨a, e', _⟩
      · exact h
      · cases e'
    subst hn
    have hm : m = 0 := by
      rcases Nat.eq_zero_or_pos m with h | h
      · exact h
      · exfalso
        have := Nat.mul_le_mul h (Nat.le_refl size)
        simp at hl
        omega
    subst hm
    obtain ⟨A', c', rfl, _⟩ := own_row hown
    refine ⟨A', c', w, ?_, by simpa using hown, ⟨rfl, rfl, rfl, Nat.le_refl _, fun _ _ _ => rfl⟩, fun b h => .inl h⟩
    rcases hown.2 with ⟨e1, rfl⟩ | ⟨g, cap, cur, e1, _, _, hnc, _⟩
    · injection e1 with e1 e2 e3
      subst e1 e3
      simp [Builtin.append_, run_underlying ht, sizeOf, typeInfo, hi, Builtin.lenOf, Builtin.firstCells]
    · injection e1 with e1 e2 e3
      subst e1 e3
      simp [Builtin.append_, run_underlying ht, sizeOf, typeInfo, hi, Builtin.lenOf, Builtin.firstCells, hnc, storeCells]

theorem wp_append_row {o : Oper} {a : Act} {K : Act → World → Prop} {Q : Exit → Act → World → Prop} (s x : Operand) (t : TypeId)
    (ho : o.op = .call { callee := .builtin .append, args := #[s, x], argTypes := #[t, t] })
    (base : Nat) (e : TypeId) (i : TypeInfo) (z : Value) (size bytes : Nat) (ht : P.underlying t = some (.slice e)) (hi : P.info? e = some i) (hz : i.zero = some z)
    (hsize : i.size = size) (hby : i.bytes = bytes) (hzs : z.cells.size = size) (hsz : 0 < size)
    (v : Value) (n : Nat) (xs : List Value) (hs : a.eval s = v) (hown : w.ownsRow base e size v n xs)
    (A : Option Addr) (m c : Nat) (news : List Value) (hx : a.eval x = .slice A m c) {lo : Nat} (hrow : Row w lo A news) (hl : news.length = m * size) (h1 : ∀ u ∈ news, u.oneCell' = true)
    (h63 : n + m ≤ maxLen) (hbytes : (n + m) * bytes ≤ 140737488355328) (hbase : base ≤ w.heap.size) (H : Nat) (hH : w.heap.size = H) (N : Nat) (hN : n + m = N)
    (h : ∀ A' c' w', w'.ownsRow base e size (.slice A' N c') N (xs ++ news) → w.grownBy w' v.ownBlock → (∀ b, b ∈ vblk (.slice A' N c') → b ∈ vblk v ∨ b = H) → K (a.put o.dst (.slice A' N c')) w') : o.wp P a w K Q := by
  obtain ⟨A', c', w', hr, h2, h3, h4⟩ := run_append_row (P := P) (w := w) base t o.type e i z size bytes ht hi hz hsize hby hzs hsz v n xs hown A m c news hrow hl h1 h63 hbytes hbase
  unfold Oper.wp execOp
  simp only [ho, resolve, invoke, builtin, Sem.run_bind, Sem.run_pure, Result.andThen_ok, List.map_toArray, List.map_cons, List.map_nil, hs, hx, hr]
  subst hN
  exact h A' c' w' h2 h3 (hH ▸ h4)
theorem wpList_append_row {ops : Array Oper} {rest : List Oper} {o : Oper} {a : Act} {Q : Exit → Act → World → Prop} (hgd : o.guard = none) (s x : Operand) (t : TypeId)
    (ho : o.op = .call { callee := .builtin .append, args := #[s, x], argTypes := #[t, t] })
    (base : Nat) (e : TypeId) (i : TypeInfo) (z : Value) (size bytes : Nat) (ht : P.underlying t = some (.slice e)) (hi : P.info? e = some i) (hz : i.zero = some z)
    (hsize : i.size = size) (hby : i.bytes = bytes) (hzs : z.cells.size = size) (hsz : 0 < size)
    (v : Value) (n : Nat) (xs : List Value) (hs : a.eval s = v) (hown : w.ownsRow base e size v n xs)
    (A : Option Addr) (m c : Nat) (news : List Value) (hx : a.eval x = .slice A m c) {lo : Nat} (hrow : Row w lo A news) (hl : news.length = m * size) (h1 : ∀ u ∈ news, u.oneCell' = true)
    (h63 : n + m ≤ maxLen) (hbytes : (n + m) * bytes ≤ 140737488355328) (hbase : base ≤ w.heap.size) (H : Nat) (hH : w.heap.size = H) (N : Nat) (hN : n + m = N)
    (h : ∀ A' c' w', w'.ownsRow base e size (.slice A' N c') N (xs ++ news) → w.grownBy w' v.ownBlock → (∀ b, b ∈ vblk (.slice A' N c') → b ∈ vblk v ∨ b = H) → wpList P ops Q rest (a.put o.dst (.slice A' N c')) w') : wpList P ops Q (o :: rest) a w :=
  wpList_plain hgd fun _ hK => wp_append_row s x t ho base e i z size bytes ht hi hz hsize hby hzs hsz v n xs hs hown A m c news hx hrow hl h1 h63 hbytes hbase H hH N hN fun A' c' w' h2 h3 h4 => hK _ _ (h A' c' w' h2 h3 h4)
theorem step_append_row {ops : Array Oper} {o : Oper} {a : Act} {K : Act → World → Prop} {Q : Exit → Act → World → Prop} {E : Prop} (hgd : o.guard = none) (s x : Operand) (t : TypeId)
    (ho : o.op = .call { callee := .builtin .append, args := #[s, x], argTypes := #[t, t] })
    (base : Nat) (e : TypeId) (i : TypeInfo) (z : Value) (size bytes : Nat) (ht : P.underlying t = some (.slice e)) (hi : P.info? e = some i) (hz : i.zero = some z)
    (hsize : i.size = size) (hby : i.bytes = bytes) (hzs : z.cells.size = size) (hsz : 0 < size)
    (v : Value) (n : Nat) (xs : List Value) (hs : a.eval s = v) (hown : w.ownsRow base e size v n xs)
    (A : Option Addr) (m c : Nat) (news : List Value) (hx : a.eval x = .slice A m c) {lo : Nat} (hrow : Row w lo A news) (hl : news.length = m * size) (h1 : ∀ u ∈ news, u.oneCell' = true)
    (h63 : n + m ≤ maxLen) (hbytes : (n + m) * bytes ≤ 140737488355328) (hbase : base ≤ w.heap.size) (H : Nat) (hH : w.heap.size = H) (N : Nat) (hN : n + m = N)
    (h : ∀ A' c' w', w'.ownsRow base e size (.slice A' N c') N (xs ++ news) → w.grownBy w' v.ownBlock → (∀ b, b ∈ vblk (.slice A' N c') → b ∈ vblk v ∨ b = H) → K (a.put o.dst (.slice A' N c')) w') :
    if Region.wanted o (yielded ops a.tmps) = true then Oper.wp P o a w K Q else E := by
  have hw : Region.wanted o (yielded ops a.tmps) = true := by simp [Region.wanted, hgd]
  rw [if_pos hw]
  exact wp_append_row s x t ho base e i z size bytes ht hi hz hsize hby hzs hsz v n xs hs hown A m c news hx hrow hl h1 h63 hbytes hbase H hH N hN h
/-- A call of a Go function, as one step of a region that draws. -/
theorem step_call {ops : Array Oper} {o : Oper} {a : Act} {K : Act → World → Prop} {Q : Exit → Act → World → Prop} {E : Prop} (hgd : o.guard = none) (f : FuncId) (xs : Array Operand) (ts : Array TypeId)
    (ho : o.op = .call { callee := .value (.func f), args := xs, argTypes := ts }) (fn : Func) (hf : P.funcs[f]? = some fn) (hname : (fn.name == "runtime.NumGoroutine") = false) (hb : fn.body.isNone = false)
    (vals : Array Value) (hv : xs.toList.map a.eval = vals.toList) {R : Value → World → Prop} (hc : Calls P f vals w fun e w' => ∃ v, e = .returned v ∧ R v w')
    (h : ∀ v w', R v w' → K (a.put o.dst v) w') : if Region.wanted o (yielded ops a.tmps) = true then Oper.wp P o a w K Q else E := by
  have hw : Region.wanted o (yielded ops a.tmps) = true := by simp [Region.wanted, hgd]
  rw [if_pos hw]
  have h1 : ¬ fn.name = "runtime.NumGoroutine" := by simpa using hname
  have h2 : ¬ fn.body = none := by cases hx : fn.body <;> simp_all
  have hrun : (execOp a.eval o).run P w = .ok (.enter f vals) w := by
    have hv' : xs.map a.eval = vals := Array.toList_inj.1 (by rw [Array.toList_map]; exact hv)
    rw [← hv']
    unfold execOp
    simp [ho, resolve, Deferred.ofValue, invoke, callFunc, hf, h1, h2, Act.eval]
  unfold Oper.wp
  rw [hrun, Oper.upon_enter]
  refine hc.mono ?_
  rintro e w' ⟨v, rfl, hr⟩
  exact h v w' hr
end

end Go.Proofs.Ytplhbjpkkhhilaa

/- copied, at spans: the same cells in new memory. -/
namespace Go.Proofs.Ytplhbjpkkhhilaa
set_option linter.unusedSimpArgs false
set_option linter.unusedVariables false
open Go.RowKit

theorem sizeSp : (Try.prog.info? TSp).map (·.size) = some 2 := by kernel_rfl
/-- a row copied: the same cells in new memory -/
theorem copiedSpan_c (A : Option Addr) (c n : Nat) (cs : List Value) (w : World) {lo : Nat} (h : Row w lo A cs) (hn : cs.length = n * 2) (h1 : ∀ u ∈ cs, u.oneCell' = true) (hx : n * 16 ≤ 140737488355328) :
    Calls Try.prog 73 #[.slice A n c] w fun e w' => ∃ v, e = .returned v ∧ w'.ownsRow w.heap.size TSp 2 v n cs ∧ Below w.heap.size w w' := by
  by_cases h0 : n = 0
  · subst h0
    go_enter Try.func73, Try.ntmps73
    go_wp2
    go_ret
    have : cs = [] := by simpa using hn
    subst this
    exact ⟨_, rfl, World.ownsRow_nil _ _ _ _, Below.refl _ _⟩
  · obtain ⟨i0, hi, hz0, hz1, hz2⟩ := info_parts infoSp
    have b0 : ((n : Int) == 0) = false := by simp [h0]
    have h0' : 0 < n := by omega
    clear h0
    rcases h with rfl | ⟨ad, rfl, _, hc⟩
    · simp at hn; omega
    have HN : Hid (cs.length = n * 2) := hn
    clear hn
    go_enter Try.func73, Try.ntmps73
    go_wp2_with (first
      | (at_make; refine wpList_make_full _ rfl (.tmp 8) (.tmp 8) 27 rfl w.heap.size TSp i0 (.agg #[.int .i64 0, .int .i64 0]) 2 Try.underlying27 hi hz0 hz1 .i64 .i64 _ _ n rfl rfl rfl rfl (by rw [hz2]; omega) (by unfold maxLen; omega) (Nat.le_refl _) ?_; intro w1 hown hgrow; obtain ⟨cur, hB, hsz, _⟩ := own_blk hown; have hb1 := (Below.refl _ w).grown hgrow (Nat.le_refl _) (fun k hk => by cases hk); have hc1 := hc.below hb1; clear hown hgrow; have HS : Hid (cur.size = n * 2) := hsz; clear hsz)
      | (with_reducible refine ev_copy (o := ⟨some 12, _, _, _, _, _⟩) rfl (.tmp 10) (.tmp 11) _ _ rfl TSp Try.underlying27 2 sizeSp w.heap.size n n _ ad rfl rfl cur TSp hB cs HN.out hc1 (by rw [HN.out, HS.out]; exact Nat.le_refl _) h1 ?_; intro w2 hB2 hg2))
    go_ret
    have e : cur.toList.drop cs.length = [] := List.drop_of_length_le (by rw [Array.length_toList, HN.out, HS.out]; exact Nat.le_refl _)
    rw [e, List.append_nil] at hB2
    exact ⟨_, rfl, own_of_blk hB2 HN.out (Nat.le_refl _) (by unfold maxLen; omega), hb1.grown hg2 hb1.size (fun k hk => by injection hk with hk; omega)⟩

end Go.Proofs.Ytplhbjpkkhhilaa

/- How many kids a kind has, of the reference and of the program. (Printed by wip/gen/kids.py.) -/
namespace Go.Proofs.Ytplhbjpkkhhilaa
set_option linter.unusedSimpArgs false
set_option linter.unusedVariables false
open Go.RowKit

theorem kids0 {k : Int} (h : k = 1 ∨ k = 2) : kidsOf k = 0 := by unfold kidsOf; rw [if_pos h]
theorem kids1 {k : Int} (h : k = 5 ∨ k = 7) : kidsOf k = 1 := by unfold kidsOf; rw [if_neg (by omega), if_pos h]
theorem kids2 {k : Int} (h : k = 3 ∨ k = 4 ∨ k = 6) : kidsOf k = 2 := by unfold kidsOf; rw [if_neg (by omega), if_neg (by omega), if_pos h]
theorem kidsN {k : Int} (h : ¬ (k = 1 ∨ k = 2 ∨ k = 3 ∨ k = 4 ∨ k = 5 ∨ k = 6 ∨ k = 7)) : kidsOf k = -1 := by unfold kidsOf; rw [if_neg (by omega), if_neg (by omega), if_neg (by omega)]

theorem sKids_c (k : Int) (w : World) : Calls Try.prog 79 #[.int .i64 k] w fun e w' => e = .returned (.int .i64 (kidsOf k)) ∧ w = w' := by
  by_cases e1 : k = 1
  · subst e1
    rw [kids0 (.inl rfl)]
    go_enter Try.func79, Try.ntmps79
    go_wp2
    go_ret
    exact ⟨rfl, rfl⟩
  have d1 : (k == 1) = false := by simp [e1]
  by_cases e2 : k = 2
  · subst e2
    rw [kids0 (.inr rfl)]
    go_enter Try.func79, Try.ntmps79
    go_wp2
    go_ret
    exact ⟨rfl, rfl⟩
  have d2 : (k == 2) = false := by simp [e2]
  by_cases e5 : k = 5
  · subst e5
    rw [kids1 (.inl rfl)]
    go_enter Try.func79, Try.ntmps79
    go_wp2
    go_ret
    exact ⟨rfl, rfl⟩
  have d5 : (k == 5) = false := by simp [e5]
  by_cases e7 : k = 7
  · subst e7
    rw [kids1 (.inr rfl)]
    go_enter Try.func79, Try.ntmps79
    go_wp2
    go_ret
    exact ⟨rfl, rfl⟩
  have d7 : (k == 7) = false := by simp [e7]
  by_cases e3 : k = 3
  · subst e3
    rw [kids2 (.inl rfl)]
    go_enter Try.func79, Try.ntmps79
    go_wp2
    go_ret
    exact ⟨rfl, rfl⟩
  have d3 : (k == 3) = false := by simp [e3]
  by_cases e4 : k = 4
  · subst e4
    rw [kids2 (.inr (.inl rfl))]
    go_enter Try.func79, Try.ntmps79
    go_wp2
    go_ret
    exact ⟨rfl, rfl⟩
  have d4 : (k == 4) = false := by simp [e4]
  by_cases e6 : k = 6
  · subst e6
    rw [kids2 (.inr (.inr rfl))]
    go_enter Try.func79, Try.ntmps79
    go_wp2
    go_ret
    exact ⟨rfl, rfl⟩
  have d6 : (k == 6) = false := by simp [e6]
  rw [kidsN (by omega)]
  go_enter Try.func79, Try.ntmps79
  go_wp2
  go_ret
  exact ⟨rfl, rfl⟩

theorem iKids_c (k : Int) (w : World) : Calls Try.prog 78 #[.int .i64 k] w fun e w' => e = .returned (.int .i64 (kidsOf k)) ∧ w = w' := by
  by_cases e1 : k = 1
  · subst e1
    rw [kids0 (.inl rfl)]
    go_enter Try.func78, Try.ntmps78
    go_wp2
    go_ret
    exact ⟨rfl, rfl⟩
  have d1 : (k == 1) = false := by simp [e1]
  by_cases e2 : k = 2
  · subst e2
    rw [kids0 (.inr rfl)]
    go_enter Try.func78, Try.ntmps78
    go_wp2
    go_ret
    exact ⟨rfl, rfl⟩
  have d2 : (k == 2) = false := by simp [e2]
  by_cases e5 : k = 5
  · subst e5
    rw [kids1 (.inl rfl)]
    go_enter Try.func78, Try.ntmps78
    go_wp2
    go_ret
    exact ⟨rfl, rfl⟩
  have d5 : (k == 5) = false := by simp [e5]
  by_cases e7 : k = 7
  · subst e7
    rw [kids1 (.inr rfl)]
    go_enter Try.func78, Try.ntmps78
    go_wp2
    go_ret
    exact ⟨rfl, rfl⟩
  have d7 : (k == 7) = false := by simp [e7]
  by_cases e3 : k = 3
  · subst e3
    rw [kids2 (.inl rfl)]
    go_enter Try.func78, Try.ntmps78
    go_wp2
    go_ret
    exact ⟨rfl, rfl⟩
  have d3 : (k == 3) = false := by simp [e3]
  by_cases e4 : k = 4
  · subst e4
    rw [kids2 (.inr (.inl rfl))]
    go_enter Try.func78, Try.ntmps78
    go_wp2
    go_ret
    exact ⟨rfl, rfl⟩
  have d4 : (k == 4) = false := by simp [e4]
  by_cases e6 : k = 6
  · subst e6
    rw [kids2 (.inr (.inr rfl))]
    go_enter Try.func78, Try.ntmps78
    go_wp2
    go_ret
    exact ⟨rfl, rfl⟩
  have d6 : (k == 6) = false := by simp [e6]
  rw [kidsN (by omega)]
  go_enter Try.func78, Try.ntmps78
  go_wp2
  go_ret
  exact ⟨rfl, rfl⟩

end Go.Proofs.Ytplhbjpkkhhilaa

/- Formed trees: the program's formed. -/
namespace Go.Proofs.Ytplhbjpkkhhilaa
set_option linter.unusedSimpArgs false
set_option linter.unusedVariables false
open Go.RowKit

def IFormOk (r : Rex) : Prop := ∀ (d : Nat) (v1 v2 : Value) (w : World) (lo : Nat), d ≤ 1000 → RexV w lo r (.int .i64 r.kind) v1 v2 →
  Calls Try.prog 55 #[.agg #[.int .i64 r.kind, v1, v2], .int .i64 d] w fun e w' => e = .returned (.bool (formed d r)) ∧ Below w.heap.size w w'

set_option maxHeartbeats 2000000 in
theorem iForm_c (r : Rex) : IFormOk r := by
  refine Rex.ind (p := IFormOk) (fun k s ks ih => ?_) r
  intro d v1 v2 w lo hd h
  obtain ⟨A, c, K, ck, _, rfl, rfl, hs, hk⟩ := h.parts
  dsimp only [Rex.kind, Rex.set, Rex.kids] at hs hk ⊢
  clear h
  have hlen := hk.len
  have hslen := hs.len
  unfold maxN at hlen hslen
  obtain ⟨wa, hwa⟩ : ∃ x, x = w.alloc (.cells #[.int .i64 k, .slice A s.length c, .slice K ks.length ck] 34) := ⟨_, rfl⟩
  have hb : Below w.heap.size w wa := by rw [hwa]; exact below_alloc (Below.refl _ _) _
  have m0 : Blk wa w.heap.size #[.int .i64 k, .slice A s.length c, .slice K ks.length ck] 34 := by rw [hwa]; exact blk_new w _ _
  have HB := Lib.hid hb
  have M0 := Lib.hid m0
  have HS := Lib.hid (hs.below hb)
  have HK := Lib.hid (hk.below hb)
  clear hb m0 hs hk
  have N0 : ∀ x : BW wa, x.w1.cell? ⟨w.heap.size, 0, none⟩ = some (.int .i64 k) := fun x => by rw [(M0.out.below x.up).cell]; rfl
  have N1 : ∀ x : BW wa, x.w1.cell? ⟨w.heap.size, 1, none⟩ = some (.slice A s.length c) := fun x => by rw [(M0.out.below x.up).cell]; rfl
  have N2 : ∀ x : BW wa, x.w1.cell? ⟨w.heap.size, 2, none⟩ = some (.slice K ks.length ck) := fun x => by rw [(M0.out.below x.up).cell]; rfl
  cases d with
  | zero =>
    go_enter Try.func55, Try.ntmps55
    go_wp2
    rw [← hwa]
    clear hwa
    refine wp_region_bw (by kernel_rfl) (by kernel_rfl) ?_
    repeat (go_big_quiet_step ((fail)))
    refine wpQuiet_nil ?_
    rintro _ ⟨⟨w1, b1⟩, rfl⟩
    go_wp2
    go_ret
    exact ⟨rfl, below_then HB.out b1⟩
  | succ d =>
    have D1 : decide ((d : Int) + 1 < 1) = false := by simp; omega
    by_cases h1 : kidsOf k = ks.length
    · have g1 : (kidsOf k != (ks.length : Int)) = false := by simp [h1]
      by_cases h3 : setOk s = true
      · by_cases h2 : k = 1
        · subst h2
          have NO : Hid (nodeOk (.mk 1 s ks) = true) := by show _ = _; simp [nodeOk, Rex.kind, Rex.kids, Rex.set, h1, h3]
          have H3 := Lib.hid h3
          clear h1 h3
          go_enter Try.func55, Try.ntmps55
          go_wp2
          rw [← hwa]
          clear hwa
          refine wp_region_bw (by kernel_rfl) (by kernel_rfl) ?_
          repeat (go_big_quiet_step ((first | (go_at_call 78; exact Calls.bw_e rfl (iKids_c _ _)) | (go_at_call 44; exact Calls.bw (bv H3.out) (iSetOk_c _ _ _ _ (HS.out.below (BW.up _)))))))
          refine wpQuiet_nil ?_
          rintro w1 ⟨x1, y1⟩
          have b1 : Below wa.heap.size wa w1 := y1 ▸ x1.up
          replace N2 := N2 ⟨w1, b1⟩
          dsimp only at N2
          clear y1 x1
          clear N0 N1
          have HB1 := Lib.hid b1
          clear b1
          go_wp2
          go_loopg [38] (ks.length) (fun n i wr => ∃ j : Nat, j + n = ks.length ∧ i = .int .i64 j ∧ Hid ((ks.drop j).all (formed d) = ks.all (formed d)) ∧ Hid (Below wa.heap.size wa wr))
          case atStart => exact ⟨0, by omega, rfl, by rw [List.drop_zero]; rfl, HB1⟩
          case round =>
            clear HB1 N2 g1
            obtain ⟨j, hj, rfl, HF, HW⟩ := hrel
            by_cases hlt : j < ks.length
            · obtain ⟨a, r, x1, x2, rfl, HX, HD, HV, c0, c1, c2⟩ := (HK.out.below HW.out).at_ j hlt
              obtain ⟨A1, d1, K1, e1, _, rfl, rfl, _⟩ := HV.out.parts
              have hmem := List.mem_of_getElem? HX.out
              have E2 : Hid ((ks.drop j).all (formed d) = (formed d r && (ks.drop (j + 1)).all (formed d))) := by show _ = _; rw [HD.out, List.all_cons]
              have hb2 := below_alloc (Below.refl wr.heap.size wr) (.cells #[.int .i64 r.kind, .slice A1 r.set.length d1, .slice K1 r.kids.length e1] 34)
              have HV2 := Lib.hid (HV.out.under hb2)
              have HW2 := Lib.hid (below_then HW.out hb2)
              clear hb2
              go_wp2_with fail
              refine (ih r hmem d _ _ _ _ (by omega) HV2.out).mono ?_
              rintro e w4 ⟨rfl, b4⟩
              have HW4 := Lib.hid (below_then HW2.out b4)
              clear b4 c0 c1 c2
              by_cases hf : formed d r = true
              · have HQ := Lib.hid hf
                rw [hf]
                clear hf
                go_wp2
                go_roundg (gk - 1)
                case rel => exact ⟨j + 1, by omega, by go_num, by have := HF.out; rw [E2.out, HQ.out] at this; exact this, HW4⟩
                case measure => omega
              · have HQ : Hid (formed d r = false) := by show _ = _; simpa using hf
                rw [HQ.out]
                clear hf
                go_wp2
                go_ret
                exact ⟨ret_bool (by rw [formed, NO.out]; show _ = ks.all (formed d); rw [← HF.out, E2.out, HQ.out]; rfl), below_then HB.out HW4.out⟩
            · go_wp2
              go_ret
              exact ⟨ret_bool (by rw [formed, NO.out]; show _ = ks.all (formed d); rw [← HF.out, List.drop_of_length_le (by omega)]; rfl), below_then HB.out HW.out⟩
        · have e2 : (k != 1) = true := by simp [h2]
          by_cases h4 : s = []
          · have e4 : decide (0 < s.length) = false := by simp [h4]
            have NO : Hid (nodeOk (.mk k s ks) = true) := by show _ = _; rw [h4] at h3 ⊢; simp [nodeOk, Rex.kind, Rex.kids, Rex.set, h1, h3]
            have H3 := Lib.hid h3
            clear h1 h3 h2 h4
            go_enter Try.func55, Try.ntmps55
            go_wp2
            rw [← hwa]
            clear hwa
            refine wp_region_bw (by kernel_rfl) (by kernel_rfl) ?_
            repeat (go_big_quiet_step ((first | (go_at_call 78; exact Calls.bw_e rfl (iKids_c _ _)) | (go_at_call 44; exact Calls.bw (bv H3.out) (iSetOk_c _ _ _ _ (HS.out.below (BW.up _)))))))
            refine wpQuiet_nil ?_
            rintro w1 ⟨x1, y1⟩
            have b1 : Below wa.heap.size wa w1 := y1 ▸ x1.up
            replace N2 := N2 ⟨w1, b1⟩
            dsimp only at N2
            clear y1 x1
            clear N0 N1
            have HB1 := Lib.hid b1
            clear b1
            go_wp2
            go_loopg [38] (ks.length) (fun n i wr => ∃ j : Nat, j + n = ks.length ∧ i = .int .i64 j ∧ Hid ((ks.drop j).all (formed d) = ks.all (formed d)) ∧ Hid (Below wa.heap.size wa wr))
            case atStart => exact ⟨0, by omega, rfl, by rw [List.drop_zero]; rfl, HB1⟩
            case round =>
              clear HB1 N2 g1
              obtain ⟨j, hj, rfl, HF, HW⟩ := hrel
              by_cases hlt : j < ks.length
              · obtain ⟨a, r, x1, x2, rfl, HX, HD, HV, c0, c1, c2⟩ := (HK.out.below HW.out).at_ j hlt
                obtain ⟨A1, d1, K1, e1, _, rfl, rfl, _⟩ := HV.out.parts
                have hmem := List.mem_of_getElem? HX.out
                have E2 : Hid ((ks.drop j).all (formed d) = (formed d r && (ks.drop (j + 1)).all (formed d))) := by show _ = _; rw [HD.out, List.all_cons]
                have hb2 := below_alloc (Below.refl wr.heap.size wr) (.cells #[.int .i64 r.kind, .slice A1 r.set.length d1, .slice K1 r.kids.length e1] 34)
                have HV2 := Lib.hid (HV.out.under hb2)
                have HW2 := Lib.hid (below_then HW.out hb2)
                clear hb2
                go_wp2_with fail
                refine (ih r hmem d _ _ _ _ (by omega) HV2.out).mono ?_
                rintro e w4 ⟨rfl, b4⟩
                have HW4 := Lib.hid (below_then HW2.out b4)
                clear b4 c0 c1 c2
                by_cases hf : formed d r = true
                · have HQ := Lib.hid hf
                  rw [hf]
                  clear hf
                  go_wp2
                  go_roundg (gk - 1)
                  case rel => exact ⟨j + 1, by omega, by go_num, by have := HF.out; rw [E2.out, HQ.out] at this; exact this, HW4⟩
                  case measure => omega
                · have HQ : Hid (formed d r = false) := by show _ = _; simpa using hf
                  rw [HQ.out]
                  clear hf
                  go_wp2
                  go_ret
                  exact ⟨ret_bool (by rw [formed, NO.out]; show _ = ks.all (formed d); rw [← HF.out, E2.out, HQ.out]; rfl), below_then HB.out HW4.out⟩
              · go_wp2
                go_ret
                exact ⟨ret_bool (by rw [formed, NO.out]; show _ = ks.all (formed d); rw [← HF.out, List.drop_of_length_le (by omega)]; rfl), below_then HB.out HW.out⟩
          · have hl : 0 < s.length := by cases s; exact absurd rfl h4; simp
            have e4 : decide (0 < s.length) = true := decide_eq_true (by omega)
            have NO : Hid (nodeOk (.mk k s ks) = false) := by show _ = _; cases s; exact absurd rfl h4; simp [nodeOk, Rex.kind, Rex.kids, Rex.set, h2]
            clear h1 h3 h2 h4 hl
            go_enter Try.func55, Try.ntmps55
            go_wp2
            rw [← hwa]
            clear hwa
            refine wp_region_bw (by kernel_rfl) (by kernel_rfl) ?_
            repeat (go_big_quiet_step ((first | (go_at_call 78; exact Calls.bw_e rfl (iKids_c _ _)) | (go_at_call 44; exact Calls.bw (bv H3.out) (iSetOk_c _ _ _ _ (HS.out.below (BW.up _)))))))
            refine wpQuiet_nil ?_
            rintro w1 ⟨x1, y1⟩
            have b1 : Below wa.heap.size wa w1 := y1 ▸ x1.up
            replace N2 := N2 ⟨w1, b1⟩
            dsimp only at N2
            clear y1 x1
            clear N0 N1
            go_wp2
            go_ret
            exact ⟨ret_bool (by rw [formed, NO.out]; rfl), below_then HB.out b1⟩
      · replace h3 : setOk s = false := by simpa using h3
        have NO : Hid (nodeOk (.mk k s ks) = false) := by show _ = _; simp [nodeOk, Rex.set, h3]
        by_cases h2 : k = 1
        · subst h2
          have H3 := Lib.hid h3
          clear h1 h3
          go_enter Try.func55, Try.ntmps55
          go_wp2
          rw [← hwa]
          clear hwa
          refine wp_region_bw (by kernel_rfl) (by kernel_rfl) ?_
          repeat (go_big_quiet_step ((first | (go_at_call 78; exact Calls.bw_e rfl (iKids_c _ _)) | (go_at_call 44; exact Calls.bw (bv H3.out) (iSetOk_c _ _ _ _ (HS.out.below (BW.up _)))))))
          refine wpQuiet_nil ?_
          rintro w1 ⟨x1, y1⟩
          have b1 : Below wa.heap.size wa w1 := y1 ▸ x1.up
          replace N2 := N2 ⟨w1, b1⟩
          dsimp only at N2
          clear y1 x1
          clear N0 N1
          go_wp2
          go_ret
          exact ⟨ret_bool (by rw [formed, NO.out]; rfl), below_then HB.out b1⟩
        · have e2 : (k != 1) = true := by simp [h2]
          by_cases h4 : s = []
          · subst h4
            simp [setOk, setOkGo] at h3
          · have hl : 0 < s.length := by cases s; exact absurd rfl h4; simp
            have e4 : decide (0 < s.length) = true := decide_eq_true (by omega)
            clear h1 h3 h2 h4 hl
            go_enter Try.func55, Try.ntmps55
            go_wp2
            rw [← hwa]
            clear hwa
            refine wp_region_bw (by kernel_rfl) (by kernel_rfl) ?_
            repeat (go_big_quiet_step ((first | (go_at_call 78; exact Calls.bw_e rfl (iKids_c _ _)) | (go_at_call 44; exact Calls.bw (bv H3.out) (iSetOk_c _ _ _ _ (HS.out.below (BW.up _)))))))
            refine wpQuiet_nil ?_
            rintro w1 ⟨x1, y1⟩
            have b1 : Below wa.heap.size wa w1 := y1 ▸ x1.up
            replace N2 := N2 ⟨w1, b1⟩
            dsimp only at N2
            clear y1 x1
            clear N0 N1
            go_wp2
            go_ret
            exact ⟨ret_bool (by rw [formed, NO.out]; rfl), below_then HB.out b1⟩
    · have g1 : (kidsOf k != (ks.length : Int)) = true := by simp [h1]
      have NO : Hid (nodeOk (.mk k s ks) = false) := by show _ = _; simp [nodeOk, Rex.kind, Rex.kids, h1]
      clear h1
      go_enter Try.func55, Try.ntmps55
      go_wp2
      rw [← hwa]
      clear hwa
      refine wp_region_bw (by kernel_rfl) (by kernel_rfl) ?_
      repeat (go_big_quiet_step ((first | (go_at_call 78; exact Calls.bw_e rfl (iKids_c _ _)) | (go_at_call 44; exact Calls.bw (bv H3.out) (iSetOk_c _ _ _ _ (HS.out.below (BW.up _)))))))
      refine wpQuiet_nil ?_
      rintro w1 ⟨x1, y1⟩
      have b1 : Below wa.heap.size wa w1 := y1 ▸ x1.up
      replace N2 := N2 ⟨w1, b1⟩
      dsimp only at N2
      clear y1 x1
      clear N0 N1
      go_wp2
      go_ret
      exact ⟨ret_bool (by rw [formed, NO.out]; rfl), below_then HB.out b1⟩

end Go.Proofs.Ytplhbjpkkhhilaa

/- Formed trees: the reference's l2Form. -/
namespace Go.Proofs.Ytplhbjpkkhhilaa
set_option linter.unusedSimpArgs false
set_option linter.unusedVariables false
open Go.RowKit

def SFormOk (r : Rex) : Prop := ∀ (d : Nat) (v1 v2 : Value) (w : World) (lo : Nat), d ≤ 1000 → RexV w lo r (.int .i64 r.kind) v1 v2 →
  Calls Try.prog 56 #[.agg #[.int .i64 r.kind, v1, v2], .int .i64 d] w fun e w' => e = .returned (.bool (formed d r)) ∧ Below w.heap.size w w'

set_option maxHeartbeats 2000000 in
theorem sForm_c (r : Rex) : SFormOk r := by
  refine Rex.ind (p := SFormOk) (fun k s ks ih => ?_) r
  intro d v1 v2 w lo hd h
  obtain ⟨A, c, K, ck, _, rfl, rfl, hs, hk⟩ := h.parts
  dsimp only [Rex.kind, Rex.set, Rex.kids] at hs hk ⊢
  clear h
  have hlen := hk.len
  have hslen := hs.len
  unfold maxN at hlen hslen
  obtain ⟨wa, hwa⟩ : ∃ x, x = w.alloc (.cells #[.int .i64 k, .slice A s.length c, .slice K ks.length ck] 34) := ⟨_, rfl⟩
  have hb : Below w.heap.size w wa := by rw [hwa]; exact below_alloc (Below.refl _ _) _
  have m0 : Blk wa w.heap.size #[.int .i64 k, .slice A s.length c, .slice K ks.length ck] 34 := by rw [hwa]; exact blk_new w _ _
  have HB := Lib.hid hb
  have M0 := Lib.hid m0
  have HS := Lib.hid (hs.below hb)
  have HK := Lib.hid (hk.below hb)
  clear hb m0 hs hk
  have N0 : ∀ x : BW wa, x.w1.cell? ⟨w.heap.size, 0, none⟩ = some (.int .i64 k) := fun x => by rw [(M0.out.below x.up).cell]; rfl
  have N1 : ∀ x : BW wa, x.w1.cell? ⟨w.heap.size, 1, none⟩ = some (.slice A s.length c) := fun x => by rw [(M0.out.below x.up).cell]; rfl
  have N2 : ∀ x : BW wa, x.w1.cell? ⟨w.heap.size, 2, none⟩ = some (.slice K ks.length ck) := fun x => by rw [(M0.out.below x.up).cell]; rfl
  cases d with
  | zero =>
    go_enter Try.func56, Try.ntmps56
    go_wp2
    rw [← hwa]
    clear hwa
    refine wp_region_bw (by kernel_rfl) (by kernel_rfl) ?_
    repeat (go_big_quiet_step ((fail)))
    refine wpQuiet_nil ?_
    rintro _ ⟨⟨w1, b1⟩, rfl⟩
    go_wp2
    go_ret
    exact ⟨rfl, below_then HB.out b1⟩
  | succ d =>
    have D1 : decide ((d : Int) + 1 < 1) = false := by simp; omega
    by_cases h1 : kidsOf k = ks.length
    · have g1 : (kidsOf k != (ks.length : Int)) = false := by simp [h1]
      by_cases h3 : setOk s = true
      · by_cases h2 : k = 1
        · subst h2
          have NO : Hid (nodeOk (.mk 1 s ks) = true) := by show _ = _; simp [nodeOk, Rex.kind, Rex.kids, Rex.set, h1, h3]
          have H3 := Lib.hid h3
          clear h1 h3
          go_enter Try.func56, Try.ntmps56
          go_wp2
          rw [← hwa]
          clear hwa
          refine wp_region_bw (by kernel_rfl) (by kernel_rfl) ?_
          repeat (go_big_quiet_step ((first | (go_at_call 79; exact Calls.bw_e rfl (sKids_c _ _)) | (go_at_call 47; exact Calls.bw_d (bv H3.out) (sSetOk_c _ _ _ _ (HS.out.below (BW.up _)))))))
          refine wpQuiet_nil ?_
          rintro w1 ⟨x1, y1⟩
          have b1 : Below wa.heap.size wa w1 := y1 ▸ x1.up
          replace N2 := N2 ⟨w1, b1⟩
          dsimp only at N2
          clear y1 x1
          clear N0 N1
          have HB1 := Lib.hid b1
          clear b1
          go_wp2
          go_loopg [5] (ks.length) (fun n i wr => ∃ j : Nat, j + n = ks.length ∧ i = .int .i64 j ∧ Hid ((ks.drop j).all (formed d) = ks.all (formed d)) ∧ Hid (Below wa.heap.size wa wr))
          case atStart => exact ⟨0, by omega, rfl, by rw [List.drop_zero]; rfl, HB1⟩
          case round =>
            clear HB1 N2 g1
            obtain ⟨j, hj, rfl, HF, HW⟩ := hrel
            have n2 : wr.cell? ⟨w.heap.size, 2, none⟩ = some (.slice K ks.length ck) := by rw [(M0.out.below HW.out).cell]; rfl
            by_cases hlt : j < ks.length
            · obtain ⟨a, r, x1, x2, rfl, HX, HD, HV, c0, c1, c2⟩ := (HK.out.below HW.out).at_ j hlt
              have hmem := List.mem_of_getElem? HX.out
              have E2 : Hid ((ks.drop j).all (formed d) = (formed d r && (ks.drop (j + 1)).all (formed d))) := by show _ = _; rw [HD.out, List.all_cons]
              go_wp2_with fail
              refine (ih r hmem d _ _ _ _ (by omega) HV.out).mono ?_
              rintro e w4 ⟨rfl, b4⟩
              have HW4 := Lib.hid (below_then HW.out b4)
              clear b4 c0 c1 c2 n2
              by_cases hf : formed d r = true
              · have HQ := Lib.hid hf
                rw [hf]
                clear hf
                go_wp2
                go_roundg (gk - 1)
                case rel => exact ⟨j + 1, by omega, by go_num, by have := HF.out; rw [E2.out, HQ.out] at this; exact this, HW4⟩
                case measure => omega
              · have HQ : Hid (formed d r = false) := by show _ = _; simpa using hf
                rw [HQ.out]
                clear hf
                go_wp2
                go_ret
                exact ⟨ret_bool (by rw [formed, NO.out]; show _ = ks.all (formed d); rw [← HF.out, E2.out, HQ.out]; rfl), below_then HB.out HW4.out⟩
            · go_wp2
              go_ret
              exact ⟨ret_bool (by rw [formed, NO.out]; show _ = ks.all (formed d); rw [← HF.out, List.drop_of_length_le (by omega)]; rfl), below_then HB.out HW.out⟩
        · have e2 : (k != 1) = true := by simp [h2]
          by_cases h4 : s = []
          · have e4 : decide (0 < s.length) = false := by simp [h4]
            have NO : Hid (nodeOk (.mk k s ks) = true) := by show _ = _; rw [h4] at h3 ⊢; simp [nodeOk, Rex.kind, Rex.kids, Rex.set, h1, h3]
            have H3 := Lib.hid h3
            clear h1 h3 h2 h4
            go_enter Try.func56, Try.ntmps56
            go_wp2
            rw [← hwa]
            clear hwa
            refine wp_region_bw (by kernel_rfl) (by kernel_rfl) ?_
            repeat (go_big_quiet_step ((first | (go_at_call 79; exact Calls.bw_e rfl (sKids_c _ _)) | (go_at_call 47; exact Calls.bw_d (bv H3.out) (sSetOk_c _ _ _ _ (HS.out.below (BW.up _)))))))
            refine wpQuiet_nil ?_
            rintro w1 ⟨x1, y1⟩
            have b1 : Below wa.heap.size wa w1 := y1 ▸ x1.up
            replace N2 := N2 ⟨w1, b1⟩
            dsimp only at N2
            clear y1 x1
            clear N0 N1
            have HB1 := Lib.hid b1
            clear b1
            go_wp2
            go_loopg [5] (ks.length) (fun n i wr => ∃ j : Nat, j + n = ks.length ∧ i = .int .i64 j ∧ Hid ((ks.drop j).all (formed d) = ks.all (formed d)) ∧ Hid (Below wa.heap.size wa wr))
            case atStart => exact ⟨0, by omega, rfl, by rw [List.drop_zero]; rfl, HB1⟩
            case round =>
              clear HB1 N2 g1
              obtain ⟨j, hj, rfl, HF, HW⟩ := hrel
              have n2 : wr.cell? ⟨w.heap.size, 2, none⟩ = some (.slice K ks.length ck) := by rw [(M0.out.below HW.out).cell]; rfl
              by_cases hlt : j < ks.length
              · obtain ⟨a, r, x1, x2, rfl, HX, HD, HV, c0, c1, c2⟩ := (HK.out.below HW.out).at_ j hlt
                have hmem := List.mem_of_getElem? HX.out
                have E2 : Hid ((ks.drop j).all (formed d) = (formed d r && (ks.drop (j + 1)).all (formed d))) := by show _ = _; rw [HD.out, List.all_cons]
                go_wp2_with fail
                refine (ih r hmem d _ _ _ _ (by omega) HV.out).mono ?_
                rintro e w4 ⟨rfl, b4⟩
                have HW4 := Lib.hid (below_then HW.out b4)
                clear b4 c0 c1 c2 n2
                by_cases hf : formed d r = true
                · have HQ := Lib.hid hf
                  rw [hf]
                  clear hf
                  go_wp2
                  go_roundg (gk - 1)
                  case rel => exact ⟨j + 1, by omega, by go_num, by have := HF.out; rw [E2.out, HQ.out] at this; exact this, HW4⟩
                  case measure => omega
                · have HQ : Hid (formed d r = false) := by show _ = _; simpa using hf
                  rw [HQ.out]
                  clear hf
                  go_wp2
                  go_ret
                  exact ⟨ret_bool (by rw [formed, NO.out]; show _ = ks.all (formed d); rw [← HF.out, E2.out, HQ.out]; rfl), below_then HB.out HW4.out⟩
              · go_wp2
                go_ret
                exact ⟨ret_bool (by rw [formed, NO.out]; show _ = ks.all (formed d); rw [← HF.out, List.drop_of_length_le (by omega)]; rfl), below_then HB.out HW.out⟩
          · have hl : 0 < s.length := by cases s; exact absurd rfl h4; simp
            have e4 : decide (0 < s.length) = true := decide_eq_true (by omega)
            have NO : Hid (nodeOk (.mk k s ks) = false) := by show _ = _; cases s; exact absurd rfl h4; simp [nodeOk, Rex.kind, Rex.kids, Rex.set, h2]
            clear h1 h3 h2 h4 hl
            go_enter Try.func56, Try.ntmps56
            go_wp2
            rw [← hwa]
            clear hwa
            refine wp_region_bw (by kernel_rfl) (by kernel_rfl) ?_
            repeat (go_big_quiet_step ((first | (go_at_call 79; exact Calls.bw_e rfl (sKids_c _ _)) | (go_at_call 47; exact Calls.bw_d (bv H3.out) (sSetOk_c _ _ _ _ (HS.out.below (BW.up _)))))))
            refine wpQuiet_nil ?_
            rintro w1 ⟨x1, y1⟩
            have b1 : Below wa.heap.size wa w1 := y1 ▸ x1.up
            replace N2 := N2 ⟨w1, b1⟩
            dsimp only at N2
            clear y1 x1
            clear N0 N1
            go_wp2
            go_ret
            exact ⟨ret_bool (by rw [formed, NO.out]; rfl), below_then HB.out b1⟩
      · replace h3 : setOk s = false := by simpa using h3
        have NO : Hid (nodeOk (.mk k s ks) = false) := by show _ = _; simp [nodeOk, Rex.set, h3]
        by_cases h2 : k = 1
        · subst h2
          have H3 := Lib.hid h3
          clear h1 h3
          go_enter Try.func56, Try.ntmps56
          go_wp2
          rw [← hwa]
          clear hwa
          refine wp_region_bw (by kernel_rfl) (by kernel_rfl) ?_
          repeat (go_big_quiet_step ((first | (go_at_call 79; exact Calls.bw_e rfl (sKids_c _ _)) | (go_at_call 47; exact Calls.bw_d (bv H3.out) (sSetOk_c _ _ _ _ (HS.out.below (BW.up _)))))))
          refine wpQuiet_nil ?_
          rintro w1 ⟨x1, y1⟩
          have b1 : Below wa.heap.size wa w1 := y1 ▸ x1.up
          replace N2 := N2 ⟨w1, b1⟩
          dsimp only at N2
          clear y1 x1
          clear N0 N1
          go_wp2
          go_ret
          exact ⟨ret_bool (by rw [formed, NO.out]; rfl), below_then HB.out b1⟩
        · have e2 : (k != 1) = true := by simp [h2]
          by_cases h4 : s = []
          · subst h4
            simp [setOk, setOkGo] at h3
          · have hl : 0 < s.length := by cases s; exact absurd rfl h4; simp
            have e4 : decide (0 < s.length) = true := decide_eq_true (by omega)
            clear h1 h3 h2 h4 hl
            go_enter Try.func56, Try.ntmps56
            go_wp2
            rw [← hwa]
            clear hwa
            refine wp_region_bw (by kernel_rfl) (by kernel_rfl) ?_
            repeat (go_big_quiet_step ((first | (go_at_call 79; exact Calls.bw_e rfl (sKids_c _ _)) | (go_at_call 47; exact Calls.bw_d (bv H3.out) (sSetOk_c _ _ _ _ (HS.out.below (BW.up _)))))))
            refine wpQuiet_nil ?_
            rintro w1 ⟨x1, y1⟩
            have b1 : Below wa.heap.size wa w1 := y1 ▸ x1.up
            replace N2 := N2 ⟨w1, b1⟩
            dsimp only at N2
            clear y1 x1
            clear N0 N1
            go_wp2
            go_ret
            exact ⟨ret_bool (by rw [formed, NO.out]; rfl), below_then HB.out b1⟩
    · have g1 : (kidsOf k != (ks.length : Int)) = true := by simp [h1]
      have NO : Hid (nodeOk (.mk k s ks) = false) := by show _ = _; simp [nodeOk, Rex.kind, Rex.kids, h1]
      clear h1
      go_enter Try.func56, Try.ntmps56
      go_wp2
      rw [← hwa]
      clear hwa
      refine wp_region_bw (by kernel_rfl) (by kernel_rfl) ?_
      repeat (go_big_quiet_step ((first | (go_at_call 79; exact Calls.bw_e rfl (sKids_c _ _)) | (go_at_call 47; exact Calls.bw_d (bv H3.out) (sSetOk_c _ _ _ _ (HS.out.below (BW.up _)))))))
      refine wpQuiet_nil ?_
      rintro w1 ⟨x1, y1⟩
      have b1 : Below wa.heap.size wa w1 := y1 ▸ x1.up
      replace N2 := N2 ⟨w1, b1⟩
      dsimp only at N2
      clear y1 x1
      clear N0 N1
      go_wp2
      go_ret
      exact ⟨ret_bool (by rw [formed, NO.out]; rfl), below_then HB.out b1⟩

end Go.Proofs.Ytplhbjpkkhhilaa

/- How many parts a tree has: the program's manyParts. -/
namespace Go.Proofs.Ytplhbjpkkhhilaa
set_option linter.unusedSimpArgs false
set_option linter.unusedVariables false
open Go.RowKit

theorem many_size (r : Rex) : r.many ≤ r.size + 1 := by
  refine Rex.rec (motive_1 := fun r => r.many ≤ r.size + 1) (motive_2 := fun l => manyL l ≤ sizeL l + l.length) ?_ ?_ ?_ r
  · intro k s ks ih
    rw [Rex.many, Rex.size]
    omega
  · simp [manyL]
  · intro x xs h1 h2
    rw [manyL, sizeL, List.length_cons]
    omega
theorem manyL_size (l : List Rex) : manyL l ≤ sizeL l + l.length := by
  induction l with
  | nil => simp [manyL]
  | cons x xs ih =>
    have := many_size x
    rw [manyL, sizeL, List.length_cons]
    omega
theorem sizeL_kid {ks : List Rex} {r : Rex} (h : r ∈ ks) : r.size ≤ sizeL ks := by
  induction ks with
  | nil => cases h
  | cons x xs ih =>
    rw [sizeL]
    rcases List.mem_cons.1 h with rfl | h
    · omega
    · have := ih h; omega
def ManyOk (r : Rex) : Prop := ∀ (v1 v2 : Value) (w : World) (lo : Nat), RexV w lo r (.int .i64 r.kind) v1 v2 → r.size ≤ 1048576 →
  Calls Try.prog 53 #[.agg #[.int .i64 r.kind, v1, v2]] w fun e w' => e = .returned (.int .i64 r.many) ∧ Below w.heap.size w w'

set_option maxHeartbeats 2000000 in
theorem iMany_c (r : Rex) : ManyOk r := by
  refine Rex.ind (p := ManyOk) (fun k s ks ih => ?_) r
  intro v1 v2 w lo h hsz
  obtain ⟨A, c, K, ck, _, rfl, rfl, hs, hk⟩ := h.parts
  dsimp only [Rex.kind, Rex.set, Rex.kids] at hs hk ⊢
  rw [Rex.size] at hsz
  clear h
  have hlen := hk.len
  have hml := manyL_size ks
  have hb := below_alloc (Below.refl w.heap.size w) (.cells #[.int .i64 k, .slice A s.length c, .slice K ks.length ck] 34)
  have HB := Lib.hid hb
  have HK := Lib.hid hk
  clear hb hk
  go_enter Try.func53, Try.ntmps53
  go_wp2
  go_loopg [3, 9] (ks.length) (fun n m i wr => ∃ j : Nat, j + n = ks.length ∧ i = .int .i64 j ∧ ∃ x : Nat, m = .int .i64 x ∧ Hid (x + manyL (ks.drop j) = 1 + manyL ks) ∧ Hid (Below w.heap.size w wr))
  case atStart => exact ⟨0, by omega, rfl, 1, rfl, by rw [List.drop_zero]; rfl, HB⟩
  case round =>
    clear HB
    obtain ⟨j, hj, rfl, x, rfl, HM, HB⟩ := hrel
    by_cases hlt : j < ks.length
    · obtain ⟨a, r, x1, x2, rfl, HX, HD, HV, c0, c1, c2⟩ := (HK.out.below HB.out).at_ j hlt
      obtain ⟨A1, d1, K1, e1, _, rfl, rfl, _⟩ := HV.out.parts
      have hmem := List.mem_of_getElem? HX.out
      have hks := sizeL_kid hmem
      have E2 : Hid (manyL (ks.drop j) = r.many + manyL (ks.drop (j + 1))) := by show _ = _; rw [HD.out, manyL]
      have hx : x + r.many ≤ 1 + manyL ks := by have := HM.out; have := E2.out; omega
      have hb2 := below_alloc (Below.refl wr.heap.size wr) (.cells #[.int .i64 r.kind, .slice A1 r.set.length d1, .slice K1 r.kids.length e1] 34)
      have HV2 := Lib.hid (HV.out.under hb2)
      have HB2 := Lib.hid (below_then HB.out hb2)
      clear hb2
      go_wp2_with fail
      refine (ih r hmem _ _ _ _ HV2.out (by omega)).mono ?_
      rintro e w4 ⟨rfl, b4⟩
      have HB4 := Lib.hid (below_then HB2.out b4)
      clear b4 c0 c1 c2
      go_wp2
      go_roundg (gk - 1)
      case rel => exact ⟨j + 1, by omega, by go_num, x + r.many, by go_num, by have := HM.out; have := E2.out; show _ = _; omega, HB4⟩
      case measure => omega
    · go_wp2
      go_ret
      refine ⟨ret_int ?_, HB.out⟩
      have := HM.out
      rw [List.drop_of_length_le (by omega), manyL] at this
      rw [Rex.many]
      omega

end Go.Proofs.Ytplhbjpkkhhilaa

/- How many parts a tree has: the reference's l2Many. -/
namespace Go.Proofs.Ytplhbjpkkhhilaa
set_option linter.unusedSimpArgs false
set_option linter.unusedVariables false
open Go.RowKit

mutual
/-- the parts down to a depth -/
def Rex.manyTo : Rex → Nat → Nat
  | .mk _ _ _, 0 => 1
  | .mk _ _ ks, d + 1 => 1 + manyToL ks d
def manyToL : List Rex → Nat → Nat
  | [], _ => 0
  | r :: rs, d => r.manyTo d + manyToL rs d
end
theorem manyTo_le (r : Rex) : ∀ d, r.manyTo d ≤ r.many := by
  refine Rex.rec (motive_1 := fun r => ∀ d, r.manyTo d ≤ r.many) (motive_2 := fun l => ∀ d, manyToL l d ≤ manyL l) ?_ ?_ ?_ r
  · intro k s ks ih d
    cases d with
    | zero => rw [Rex.manyTo, Rex.many]; omega
    | succ d => have := ih d; rw [Rex.manyTo, Rex.many]; omega
  · intro d; simp [manyToL]
  · intro x xs h1 h2 d
    have := h1 d
    have := h2 d
    rw [manyToL, manyL]
    omega
theorem manyToL_le (l : List Rex) (d : Nat) : manyToL l d ≤ manyL l := by
  induction l with
  | nil => simp [manyToL]
  | cons x xs ih => have := manyTo_le x d; rw [manyToL, manyL]; omega
def ManyToOk (r : Rex) : Prop := ∀ (d : Nat) (v1 v2 : Value) (w : World) (lo : Nat), d ≤ 1000 → RexV w lo r (.int .i64 r.kind) v1 v2 → r.size ≤ 1048576 →
  Calls Try.prog 54 #[.agg #[.int .i64 r.kind, v1, v2], .int .i64 d] w fun e w' => e = .returned (.int .i64 (r.manyTo d)) ∧ Below w.heap.size w w'

set_option maxHeartbeats 2000000 in
theorem sMany_c (r : Rex) : ManyToOk r := by
  refine Rex.ind (p := ManyToOk) (fun k s ks ih => ?_) r
  intro d v1 v2 w lo hd h hsz
  obtain ⟨A, c, K, ck, _, rfl, rfl, hs, hk⟩ := h.parts
  dsimp only [Rex.kind, Rex.set, Rex.kids] at hs hk ⊢
  rw [Rex.size] at hsz
  clear h
  have hlen := hk.len
  have hml := manyL_size ks
  have hb := below_alloc (Below.refl w.heap.size w) (.cells #[.int .i64 k, .slice A s.length c, .slice K ks.length ck] 34)
  have hX := blk_new w #[.int .i64 k, .slice A s.length c, .slice K ks.length ck] 34
  have HB := Lib.hid hb
  have HK := Lib.hid hk
  have HX := Lib.hid hX
  clear hb hk hX
  go_enter Try.func54, Try.ntmps54
  go_wp2
  go_loopg [5, 6] (ks.length) (fun n m i wr => ∃ j : Nat, j + n = ks.length ∧ i = .int .i64 j ∧ ∃ x : Nat, m = .int .i64 x ∧ Hid (x + (match d with | 0 => 0 | d + 1 => manyToL (ks.drop j) d) = Rex.manyTo (.mk k s ks) d) ∧ Hid (Blk wr w.heap.size #[.int .i64 k, .slice A s.length c, .slice K ks.length ck] 34) ∧ Hid (Below w.heap.size w wr))
  case atStart =>
    refine ⟨0, by omega, rfl, 1, rfl, ?_, HX, HB⟩
    show _ = _
    cases d with
    | zero => rfl
    | succ d => rw [List.drop_zero, Rex.manyTo]
  case round =>
    clear HB HX
    obtain ⟨j, hj, rfl, x, rfl, HM, HX, HB⟩ := hrel
    have n2 : wr.cell? ⟨w.heap.size, 2, none⟩ = some (.slice K ks.length ck) := by rw [HX.out.cell]; rfl
    by_cases hlt : j < ks.length
    · have t1 : decide (j < ks.length) = true := decide_eq_true hlt
      cases d with
      | zero =>
        go_wp2
        go_ret
        exact ⟨ret_int (by have := HM.out; simp at this; omega), HB.out⟩
      | succ d =>
        obtain ⟨a, r, x1, x2, rfl, HE, HD, HV, c0, c1, c2⟩ := (HK.out.below HB.out).at_ j hlt
        have hmem := List.mem_of_getElem? HE.out
        have hks := sizeL_kid hmem
        have E2 : Hid (manyToL (ks.drop j) d = r.manyTo d + manyToL (ks.drop (j + 1)) d) := by show _ = _; rw [HD.out, manyToL]
        have HT := Lib.hid (manyTo_le (.mk k s ks) (d + 1))
        have hx : x + r.manyTo d ≤ 1 + manyL ks := by
          have h1 := HM.out
          have h2 := E2.out
          have h3 := HT.out
          rw [Rex.many] at h3
          simp only at h1
          omega
        have t2 : (0 : Int) < ((d + 1 : Nat) : Int) := by omega
        go_wp2_with fail
        refine (ih r hmem d _ _ _ _ (by omega) HV.out (by omega)).mono ?_
        rintro e w4 ⟨rfl, b4⟩
        have HB4 := Lib.hid (below_then HB.out b4)
        have HX4 := Lib.hid (HX.out.below b4)
        clear b4 c0 c1 c2 n2
        go_wp2
        go_roundg (gk - 1)
        case rel =>
          refine ⟨j + 1, by omega, by go_num, x + r.manyTo d, by go_num, ?_, HX4, HB4⟩
          show _ = _
          have h1 := HM.out
          have h2 := E2.out
          omega
        case measure => omega
    · go_wp2
      go_ret
      refine ⟨ret_int ?_, HB.out⟩
      have := HM.out
      cases d with
      | zero => simp at this; omega
      | succ d => simp only [List.drop_of_length_le (show ks.length ≤ j by omega), manyToL] at this; omega

end Go.Proofs.Ytplhbjpkkhhilaa

/- What is formed to a depth has no parts below it. -/
namespace Go.Proofs.Ytplhbjpkkhhilaa

theorem manyToL_eq {d : Nat} {l : List Rex} (h : ∀ r, r ∈ l → r.manyTo d = r.many) : manyToL l d = manyL l := by
  induction l with
  | nil => rfl
  | cons x xs ih => rw [manyToL, manyL, h x (by simp), ih fun r hr => h r (by simp [hr])]
theorem formed_many (d : Nat) : ∀ r, formed d r = true → r.manyTo d = r.many := by
  induction d with
  | zero => intro r h; simp [formed] at h
  | succ d ih =>
    intro r h
    obtain ⟨k, s, ks⟩ := r
    rw [formed, Bool.and_eq_true, List.all_eq_true] at h
    have e : manyToL ks d = manyL ks := manyToL_eq fun r hr => ih r (h.2 r hr)
    rw [Rex.manyTo, Rex.many, e]

end Go.Proofs.Ytplhbjpkkhhilaa
