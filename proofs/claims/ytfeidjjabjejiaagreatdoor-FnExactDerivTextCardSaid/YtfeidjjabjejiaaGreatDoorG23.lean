/- Texts joined for the claims: M1 M2 Mem M3 Tr M4. -/
import Derived.Test.YtfeidjjabjejiaaGreatDoorG2
import Derived.Test.YtfeidjjabjejiaaGreatDoorG4
import Derived.Deep.RegionHeld3
/- Marks in trees, and whether they are held. -/
namespace Go.Proofs.YtfeidjjabjejiaaGreatDoor
set_option linter.unusedSimpArgs false
set_option linter.unusedVariables false
set_option maxRecDepth 100000
open Go.RowKit

mutual
/-- how many numbers a tree holds in memory -/
def Rex.cnt : Rex → Nat
  | .mk _ s ks => 2 * s.length + cntL ks
def cntL : List Rex → Nat
  | [] => 0
  | r :: rs => (1 + r.cnt) + cntL rs
end
mutual
def markN : Int → Rex → Rex
  | q, .mk _ s ks => .mk q (markSps (q + 1) s) (markL (q + 1 + 2 * (s.length : Int)) ks)
def markL : Int → List Rex → List Rex
  | _, [] => []
  | q, r :: rs => markN q r :: markL (q + (1 + (r.cnt : Int))) rs
end
def markT (q : Int) (r : Rex) : Rex := .mk r.kind (markSps q r.set) (markL (q + 2 * (r.set.length : Int)) r.kids)
theorem markN_of (q : Int) (r : Rex) : markN q r = .mk q (markSps (q + 1) r.set) (markL (q + 1 + 2 * (r.set.length : Int)) r.kids) := by cases r; rw [markN]; rfl
theorem cnt_of (r : Rex) : r.cnt = 2 * r.set.length + cntL r.kids := by cases r; rw [Rex.cnt]; rfl
theorem markL_length : ∀ (ks : List Rex) (q : Int), (markL q ks).length = ks.length
  | [], q => by rw [markL]
  | r :: rs, q => by rw [markL, List.length_cons, List.length_cons, markL_length rs]
theorem markL_drop : ∀ (ks : List Rex) (q : Int) (j : Nat), (markL q ks).drop j = markL (q + cntL (ks.take j)) (ks.drop j)
  | ks, q, 0 => by simp [cntL]
  | [], q, j + 1 => by simp [markL, cntL]
  | r :: rs, q, j + 1 => by
    rw [markL, List.drop_succ_cons, markL_drop rs _ j, List.drop_succ_cons, List.take_succ_cons, cntL]
    congr 1
    omega
theorem markL_get {ks : List Rex} {q : Int} {j : Nat} {r : Rex} (h : ks[j]? = some r) : (markL q ks)[j]? = some (markN (q + cntL (ks.take j)) r) := by
  have hj := (List.getElem?_eq_some_iff.1 h).1
  have e : (markL q ks)[j]? = ((markL q ks).drop j)[0]? := by rw [List.getElem?_drop]; simp
  rw [e, markL_drop, List.drop_eq_getElem_cons hj, markL]
  have : ks[j] = r := by rw [List.getElem?_eq_getElem hj] at h; exact Option.some.inj h
  rw [this]
  rfl
theorem cntL_take {ks : List Rex} {j : Nat} {r : Rex} (h : ks[j]? = some r) : cntL (ks.take (j + 1)) = cntL (ks.take j) + (1 + r.cnt) := by
  induction ks generalizing j with
  | nil => simp at h
  | cons x xs ih =>
    cases j with
    | zero => simp at h; subst h; simp [cntL]
    | succ j => rw [List.take_succ_cons, cntL, ih (by simpa using h), List.take_succ_cons, cntL]; omega
theorem cntL_take_le (ks : List Rex) (j : Nat) : cntL (ks.take j) ≤ cntL ks := by
  induction ks generalizing j with
  | nil => simp [cntL]
  | cons x xs ih => cases j with
    | zero => simp [cntL]
    | succ j => rw [List.take_succ_cons, cntL, cntL]; have := ih j; omega
theorem mix_step {α : Type} (M ks : List α) (j : Nat) (r r' : α) (h : ks[j]? = some r) (h' : M[j]? = some r') (hl : M.length = ks.length) : (M.take j ++ ks.drop j).set j r' = M.take (j + 1) ++ ks.drop (j + 1) := by
  have hj := (List.getElem?_eq_some_iff.1 h).1
  have e : (M.take j).length = j := by rw [List.length_take]; omega
  rw [List.drop_eq_getElem_cons hj, List.set_append, if_neg (by omega), e, Nat.sub_self, List.set_cons_zero, List.take_add_one, h']
  simp
theorem mix_get {α : Type} (M ks : List α) (j : Nat) (hj : j < ks.length) (hl : M.length = ks.length) : (M.take j ++ ks.drop j)[j]? = ks[j]? := by
  have e : (M.take j).length = j := by rw [List.length_take]; omega
  rw [List.getElem?_append_right (by omega), e, Nat.sub_self, List.getElem?_drop]
  simp
theorem mix_length {α : Type} (M ks : List α) (j : Nat) (hl : M.length = ks.length) (hj : j ≤ ks.length) : (M.take j ++ ks.drop j).length = ks.length := by
  rw [List.length_append, List.length_take, List.length_drop]; omega

/-- an element of a row of trees that a call made -/
theorem OwnK.at_ {w : World} {fk : List Nat} {ks : List Rex} {K : Option Addr} {n ck : Nat} {L : List KInfo} (h : OwnK w fk ks (.slice K n ck) L) (j : Nat) {r : Rex} (hr : ks[j]? = some r) :
    ∃ g A c K' ck' fp, K = some ⟨g, 0, none⟩ ∧ Hid (L[j]? = some ⟨fp, .slice A r.set.length c, .slice K' r.kids.length ck'⟩) ∧ Hid (OwnT w fp r (.slice A r.set.length c) (.slice K' r.kids.length ck')) ∧
      w.cell? ⟨g, j * 3, none⟩ = some (.int .i64 r.kind) ∧ w.cell? ⟨g, j * 3 + 1, none⟩ = some (.slice A r.set.length c) ∧ w.cell? ⟨g, j * 3 + 2, none⟩ = some (.slice K' r.kids.length ck') ∧ w.frozen? ⟨g, j * 3, none⟩ = false := by
  obtain ⟨hL, hk, hn, hrr, fe, nd⟩ := h
  have hj := (List.getElem?_eq_some_iff.1 hr).1
  obtain ⟨x, hx⟩ : ∃ x, L[j]? = some x := ⟨L[j]'(by omega), List.getElem?_eq_getElem _⟩
  have hT := hrr j r x hr hx
  obtain ⟨g0, g1, g2⟩ := kcells_get ks L j r x hr hx hL
  obtain ⟨L', fk', _, _, hs, hk'⟩ := hT.parts
  obtain ⟨A, c, e1, _⟩ := hs.sps
  obtain ⟨K', ck', e2, _, _⟩ := own_row hk'.hk
  rcases hk.2 with ⟨_, h0⟩ | ⟨g, cap, cur, e, hg, hh, r2⟩
  · omega
  · injection e with ea eb ec
    subst ea eb ec
    obtain ⟨fp, y1, y2⟩ := x
    dsimp only at e1 e2 hT g1 g2
    subst e1 e2
    have hlen := kcells_length ks L hL
    exact ⟨g, A, c, K', ck', fp, rfl, hx, hT, (hk.cellAt _ (by omega)).trans g0, (hk.cellAt _ (by omega)).trans g1, (hk.cellAt _ (by omega)).trans g2, hk.frozenAt _⟩
theorem kcells_set : ∀ (rs : List Rex) (L : List KInfo) (j : Nat) (r : Rex) (q : Int) (s : List Sp) (ks : List Rex), rs[j]? = some r → rs.length = L.length → (kcells rs L).set (j * 3) (.int .i64 q) = kcells (rs.set j (.mk q s ks)) L
  | [], _, j, r, q, s, ks, h, _ => by simp at h
  | r' :: rs, [], j, r, q, s, ks, _, h => by simp at h
  | r' :: rs, x :: L, 0, r, q, s, ks, h, hl => by simp [kcells, kcell, Rex.kind]
  | r' :: rs, x :: L, j + 1, r, q, s, ks, h, hl => by
    have := kcells_set rs L j r q s ks (by simpa using h) (by simpa using hl)
    rw [show (j + 1) * 3 = j * 3 + 1 + 1 + 1 by omega]
    simp only [kcells, kcell, List.cons_append, List.nil_append, List.set_cons_succ, this]
theorem kcells_same : ∀ (rs : List Rex) (L : List KInfo) (j : Nat) (r r' : Rex), rs[j]? = some r → r'.kind = r.kind → kcells (rs.set j r') L = kcells rs L
  | [], _, j, r, r', h, _ => by simp at h
  | r0 :: rs, [], j, r, r', _, _ => by cases j <;> simp [kcells]
  | r0 :: rs, x :: L, 0, r, r', h, e => by simp at h; subst h; simp [kcells, kcell, e]
  | r0 :: rs, x :: L, j + 1, r, r', h, e => by
    have := kcells_same rs L j r r' (by simpa using h) e
    simp only [List.set_cons_succ, kcells, this]
theorem vblk_of_some {g n c : Nat} : vblk (.slice (some ⟨g, 0, none⟩) n c) = [g] := rfl
/-- a kind is stored -/
theorem OwnK.set_kind {w : World} {fk : List Nat} {ks : List Rex} {g n ck : Nat} {L : List KInfo} (h : OwnK w fk ks (.slice (some ⟨g, 0, none⟩) n ck) L) (j : Nat) {r : Rex} (hr : ks[j]? = some r) (q : Int) :
    OwnK (w.setCell ⟨g, j * 3, none⟩ (.int .i64 q)) fk (ks.set j (.mk q r.set r.kids)) (.slice (some ⟨g, 0, none⟩) n ck) L := by
  obtain ⟨hL, hk, hn, hrr, fe, nd⟩ := h
  have hl : (ks.set j (.mk q r.set r.kids)).length = ks.length := List.length_set
  have en : n = ks.length := by
    rcases hk.2 with ⟨h0, _⟩ | ⟨g', cap', cur, h0, _⟩
    · simp at h0
    · simp at h0; exact h0.2.1
  subst en
  have s1 := (hk.stored (j * 3) (.int .i64 q)).1
  rw [kcells_set ks L j r q r.set r.kids hr hL] at s1
  refine ⟨by rw [hl]; exact hL, by rw [hl]; exact s1, by rw [hl]; exact hn, fun i r' x hi hx => ?_, fe, nd⟩
  have stay : ∀ {r0 : Rex}, OwnT w x.fp r0 x.v1 x.v2 → OwnT (w.setCell ⟨g, j * 3, none⟩ (.int .i64 q)) x.fp r0 x.v1 x.v2 := fun hT => hT.stay fun b hb => by
    refine Below.heap_setCell _ _ _ _ fun e => ?_
    rw [fe, vblk_of_some] at nd
    exact (List.nodup_cons.1 nd).1 (by have := mem_fps.2 ⟨i, x, hx, hb⟩; rw [show b = g from e] at this; exact this)
  rw [List.getElem?_set] at hi
  split at hi
  · rename_i e
    subst e
    split at hi
    · injection hi with hi
      subst hi
      have hT := hrr j r x hr hx
      obtain ⟨L', fk', e1, e2, hs, hk'⟩ := hT.parts
      have hN := OwnT.of (k := q) hs hk' (by rw [← e1]; exact e2)
      rw [← e1] at hN
      exact stay hN
    · cases hi
  · exact stay (hrr i r' x hi hx)
/-- a kid is turned in its own blocks -/
theorem OwnK.set_kid {w w' : World} {fk : List Nat} {ks : List Rex} {v2 : Value} {L : List KInfo} (h : OwnK w fk ks v2 L) (j : Nat) {r r' : Rex} {x : KInfo} (hr : ks[j]? = some r) (hx : L[j]? = some x) (ht : Touch x.fp w w') (ho : OwnT w' x.fp r' x.v1 x.v2) (hk : r'.kind = r.kind) :
    OwnK w' fk (ks.set j r') v2 L := by
  have hlt := h.lt
  obtain ⟨hL, hkk, hn, hrr, fe, nd⟩ := h
  have hl : (ks.set j r').length = ks.length := List.length_set
  rw [fe] at nd hlt
  obtain ⟨nd1, nd2, nd3⟩ := List.nodup_append.1 nd
  refine ⟨by rw [hl]; exact hL, by rw [hl, kcells_same ks L j r r' hr hk]; exact own_move hkk fun g hg => ht.block g (hkk.lt g hg).2 fun h2 => nd3 g (mem_vblk.2 hg) g (mem_fps.2 ⟨j, x, hx, h2⟩) rfl, by rw [hl]; exact hn, fun i r0 y hi hy => ?_, fe, by rw [fe]; exact nd⟩
  rw [List.getElem?_set] at hi
  split at hi
  · rename_i e
    subst e
    split at hi
    · injection hi with hi
      subst hi
      rw [hx] at hy
      injection hy with hy
      subst hy
      exact ho
    · cases hi
  · rename_i hne
    have hT := hrr i r0 y hi hy
    refine hT.stay fun b hb => ht.block b (hT.lt b hb) fun h2 => ?_
    -- two kids have no block in common
    have key : ∀ (M : List KInfo) (i j : Nat) (x y : KInfo), (fps M).Nodup → M[i]? = some x → M[j]? = some y → i ≠ j → ∀ b, b ∈ x.fp → b ∈ y.fp → False := by
      intro M
      induction M with
      | nil => intro i j x y _ h; simp at h
      | cons z M ih =>
        intro i j x y hn hi hj hij b h1 h2
        rw [fps_cons] at hn
        obtain ⟨n1, n2, n3⟩ := List.nodup_append.1 hn
        cases i with
        | zero =>
          cases j with
          | zero => exact hij rfl
          | succ j => simp at hi hj; subst hi; exact n3 b h1 b (mem_fps.2 ⟨j, y, hj, h2⟩) rfl
        | succ i =>
          cases j with
          | zero => simp at hi hj; subst hj; exact n3 b h2 b (mem_fps.2 ⟨i, x, hi, h1⟩) rfl
          | succ j => exact ih i j x y n2 (by simpa using hi) (by simpa using hj) (by omega) b h1 h2
    exact key L j i x y nd2 hx hy hne b h2 hb
end Go.Proofs.YtfeidjjabjejiaaGreatDoor

/- markRex, markRexS. -/
namespace Go.Proofs.YtfeidjjabjejiaaGreatDoor
set_option linter.unusedSimpArgs false
set_option linter.unusedVariables false
set_option maxRecDepth 100000
open Go.RowKit

theorem set_mk (k : Int) (s : List Sp) (ks : List Rex) : (Rex.mk k s ks).set = s := rfl
theorem kids_mk (k : Int) (s : List Sp) (ks : List Rex) : (Rex.mk k s ks).kids = ks := rfl
theorem kind_mk (k : Int) (s : List Sp) (ks : List Rex) : (Rex.mk k s ks).kind = k := rfl
def MarkOk (ks : List Rex) : Prop := ∀ (fk : List Nat) (K : Option Addr) (ck : Nat) (L : List KInfo) (q : Int) (w : World), OwnK w fk ks (.slice K ks.length ck) L → 0 ≤ q → q + cntL ks ≤ 1073741824 →
  Calls Tryz.prog 76 #[.slice K ks.length ck, .int .i64 q] w fun e w' => e = .returned (.int .i64 (q + cntL ks)) ∧ OwnK w' fk (markL q ks) (.slice K ks.length ck) L ∧ Touch fk w w'

theorem OwnK.len_le {w : World} {fk : List Nat} {ks : List Rex} {v2 : Value} {L : List KInfo} (h : OwnK w fk ks v2 L) : ks.length ≤ 9223372036854775807 := h.hn

set_option maxHeartbeats 4000000 in
theorem markRexS_of (ks : List Rex) (ih : ∀ r, r ∈ ks → MarkOk r.kids) : MarkOk ks := by
  intro fk K ck L q w h h0 h1
  have hlen := h.len_le
  have HO := Lib.hid h
  have HL := Lib.hid (markL_length ks q)
  clear h
  go_enter Tryz.func76, Tryz.ntmps76
  go_wp2
  go_loopg [1, 5] (ks.length) (fun n q' i wr => ∃ j : Nat, j + n = ks.length ∧ i = .int .i64 j ∧ q' = .int .i64 (q + cntL (ks.take j)) ∧ Hid (OwnK wr fk ((markL q ks).take j ++ ks.drop j) (.slice K ks.length ck) L) ∧ Hid (Touch fk w wr))
  case atStart => exact ⟨0, by omega, rfl, by simp [cntL], by simpa [Hid] using HO.out, Touch.refl _ _⟩
  case round =>
    obtain ⟨j, hj, rfl, rfl, HK, HT⟩ := hrel
    have hle := cntL_take_le ks j
    by_cases hlt : j < ks.length
    · have hr : ks[j]? = some ks[j] := List.getElem?_eq_getElem hlt
      obtain ⟨r, hr'⟩ : ∃ r, r = ks[j] := ⟨_, rfl⟩
      rw [← hr'] at hr
      clear hr'
      have hr2 := hr
      rw [← mix_get (markL q ks) ks j hlt HL.out] at hr2
      obtain ⟨g, _, _, _, _, _, rfl, _, _, c0, _, _, f0⟩ := HK.out.at_ j hr2
      have HR := Lib.hid hr
      have HR2 := Lib.hid hr2
      have hct := cntL_take hr
      have hcl := cntL_take_le ks (j + 1)
      have hcn := cnt_of r
      have hmem := List.mem_of_getElem? hr
      obtain ⟨p, hp⟩ : ∃ p : Nat, p = cntL (ks.take j) := ⟨_, rfl⟩
      rw [← hp] at hct hle ⊢
      have HP := Lib.hid hp
      have HCT := Lib.hid hct
      have HCN := Lib.hid hcn
      have hb1 : q + (p : Int) + 1 + 2 * (r.set.length : Int) + cntL r.kids ≤ 1073741824 := by omega
      clear hr hr2 hp hct hcn hcl hle
      -- the world behind the store of the kind
      obtain ⟨ws, hws⟩ : ∃ x, x = wr.setCell ⟨g, j * 3, none⟩ (.int .i64 (q + (p : Int))) := ⟨_, rfl⟩
      have hs1 := HK.out.set_kind j HR2.out (q + (p : Int))
      have ht1 := HT.out.set (p := ⟨g, j * 3, none⟩) (by rw [HK.out.fe]; simp [vblk_of_some]) (.int .i64 (q + (p : Int)))
      have hX1 : (((markL q ks).take j ++ ks.drop j).set j (.mk (q + (p : Int)) r.set r.kids))[j]? = some (.mk (q + (p : Int)) r.set r.kids) := by
        rw [List.getElem?_set, if_pos rfl, if_pos (by rw [mix_length _ _ _ HL.out (by omega)]; exact hlt)]
      rw [← hws] at hs1 ht1
      replace hws := hws.symm
      have HS1 := Lib.hid hs1
      have HT1 := Lib.hid ht1
      have HX1 := Lib.hid hX1
      clear hX1 hs1 ht1
      obtain ⟨g', A, c, K2, ck2, fp, eK, HX, HY, _, d1, d2, _⟩ := HS1.out.at_ j HX1.out
      injection eK with eK
      injection eK with eK
      subst eK
      simp only [set_mk, kids_mk] at HX HY d1 d2
      obtain ⟨L1, fk1, hfp, hnd, hos, hok⟩ := HY.out.parts
      simp only [set_mk, kids_mk] at hos hok
      have HFP := Lib.hid hfp
      have HND := Lib.hid hnd
      have HOS := Lib.hid hos
      have HOK := Lib.hid hok
      clear hfp hnd hos hok
      have hslen : r.set.length ≤ 1073741824 := by omega
      have HFd : Hid (fk = g :: fps L) := by have := HS1.out.fe; rw [vblk_of_some] at this; exact this
      have HGN : Hid (g ∉ fp) := fun hg => by
        have n := HS1.out.nd
        rw [HFd.out] at n
        exact (List.nodup_cons.1 n).1 (mem_fps.2 ⟨j, _, HX.out, hg⟩)
      go_wp2_with fail
      clear hws c0 f0
      refine (markSpanS_c A c r.set _ _ HOS.out (by omega) (by omega) hslen).mono ?_
      rintro e w2 ⟨rfl, os2, g2⟩
      have T2 := Touch.of_grown g2
      have HT2 := Lib.hid T2
      have HOS2 := Lib.hid os2
      have hgv : g ∉ vblk (.slice A r.set.length c) := fun hg => HGN.out (by rw [HFP.out]; simp [hg])
      have n2 : w2.cell? ⟨g, j * 3 + 2, none⟩ = some (.slice K2 r.kids.length ck2) := by
        rw [World.cell?_of_block (w := ws) (T2.block g (World.block_lt_of_cell? ws _ d2) hgv)]
        exact d2
      have HOK2 : Hid (OwnK w2 fk1 r.kids (.slice K2 r.kids.length ck2) L1) := HOK.out.stay fun b hb => T2.block b (HOK.out.lt b hb) fun hv => by
        have n := HND.out
        rw [HFP.out] at n
        exact (List.nodup_append.1 n).2.2 b hv b hb rfl
      clear T2 g2 os2 d1 d2 hgv
      go_wp2_with fail
      refine (ih r hmem fk1 K2 ck2 L1 _ _ HOK2.out (by omega) (by omega)).mono ?_
      rintro e w3 ⟨rfl, ok3, t3⟩
      have HOK3 := Lib.hid ok3
      have HT3 := Lib.hid t3
      clear n2 ok3 t3
      go_wp2
      go_roundg (gk - 1)
      case rel =>
        have hct := HCT.out
        have hcn := HCN.out
        have hpp := HP.out
        refine ⟨j + 1, by omega, by go_num, by rw [hct]; congr 1; omega, ?_, ?_⟩
        · -- the kid in its own blocks
          have hos3 : OwnSp w3 0 (.slice A r.set.length c) (markSps (q + (p : Int) + 1) r.set) := HOS2.out.stay fun b hb => HT3.out.block b (HOS2.out.lt b hb).2 fun hv => by
            have n := HND.out
            rw [HFP.out] at n
            exact (List.nodup_append.1 n).2.2 b hb b hv rfl
          have hT := OwnT.of (k := q + (p : Int)) hos3 HOK3.out (by rw [← HFP.out]; exact HND.out)
          rw [← HFP.out] at hT
          have tt : Touch fp ws w3 := (HT2.out.wide fun b hb => by rw [HFP.out]; simp [hb]).trans (HT3.out.wide fun b hb => by rw [HFP.out]; simp [hb])
          have hK := HS1.out.set_kid j HX1.out HX.out tt hT rfl
          rw [List.set_set] at hK
          have e1 := markL_get (q := q) HR.out
          rw [markN_of, ← HP.out] at e1
          rw [mix_step _ _ _ _ _ HR.out e1 HL.out] at hK
          exact hK
        · have tt : Touch fk ws w3 := (HT2.out.wide fun b hb => by rw [HFd.out]; exact List.mem_cons_of_mem _ (mem_fps.2 ⟨j, _, HX.out, by rw [HFP.out]; simp [hb]⟩)).trans (HT3.out.wide fun b hb => by rw [HFd.out]; exact List.mem_cons_of_mem _ (mem_fps.2 ⟨j, _, HX.out, by rw [HFP.out]; simp [hb]⟩))
          exact HT1.out.trans tt
      case measure => omega
    · obtain ⟨p, hp⟩ : ∃ p : Nat, p = cntL (ks.take j) := ⟨_, rfl⟩
      rw [← hp] at hle ⊢
      have HP := Lib.hid hp
      clear hp
      go_wp2
      go_ret
      have hj' : j = ks.length := by omega
      refine ⟨ret_int (by rw [HP.out, hj', List.take_length]), ?_, HT.out⟩
      have := HK.out
      rw [hj', List.drop_length, List.append_nil, List.take_of_length_le (by rw [markL_length]; exact Nat.le_refl _)] at this
      exact this

theorem markRexS_c (r : Rex) : MarkOk r.kids := by
  refine Rex.ind (p := fun r => MarkOk r.kids) (fun k s ks ih => ?_) r
  exact markRexS_of ks ih

set_option maxHeartbeats 2000000 in
theorem markRex_c (r : Rex) (v1 v2 : Value) (fp : List Nat) (q : Int) (w : World) (h : OwnT w fp r v1 v2) (h0 : 0 ≤ q) (h1 : q + r.cnt ≤ 1073741824) :
    Calls Tryz.prog 26 #[.agg #[.int .i64 r.kind, v1, v2], .int .i64 q] w fun e w' => e = .returned (.int .i64 (q + r.cnt)) ∧ OwnT w' fp (markT q r) v1 v2 ∧ Touch fp w w' := by
  obtain ⟨L, fk, hfp, hnd, hos, hok⟩ := h.parts
  obtain ⟨A, c, rfl, _⟩ := hos.sps
  obtain ⟨K, ck, rfl, _, _⟩ := own_row hok.hk
  have hcn := cnt_of r
  have hb1 : q + 2 * (r.set.length : Int) + cntL r.kids ≤ 1073741824 := by omega
  have hslen : r.set.length ≤ 1073741824 := by omega
  have hcn' : q + (r.cnt : Int) = q + 2 * (r.set.length : Int) + cntL r.kids := by omega
  rw [hcn']
  clear hcn hcn' h1
  obtain ⟨wa, hwa⟩ : ∃ x, x = w.alloc (.cells #[.int .i64 r.kind, .slice A r.set.length c, .slice K r.kids.length ck] TRx) := ⟨_, rfl⟩
  have hb : Below w.heap.size w wa := by rw [hwa]; exact below_alloc (Below.refl _ _) _
  have m0 : Blk wa w.heap.size #[.int .i64 r.kind, .slice A r.set.length c, .slice K r.kids.length ck] TRx := by rw [hwa]; exact blk_new w _ _
  replace hwa := hwa.symm
  have HLT := Lib.hid h.lt
  have HB := Lib.hid hb
  have M0 := Lib.hid m0
  have HOS := Lib.hid (hos.below hb)
  have HOK := Lib.hid (hok.under hb)
  have HFP := Lib.hid hfp
  have HND := Lib.hid hnd
  have HF0 : Hid (∀ b, b ∈ fk → b < w.heap.size) := hok.lt
  have HF1 : Hid (∀ b, b ∈ vblk (.slice A r.set.length c) → b < w.heap.size) := fun b hb => (hos.lt b hb).2
  have n1 : wa.cell? ⟨w.heap.size, 1, none⟩ = some (.slice A r.set.length c) := by rw [m0.cell]; rfl
  clear h hb m0 hos hok hfp hnd
  go_enter Tryz.func26, Tryz.ntmps26
  go_wp2_with fail
  clear hwa
  refine (markSpanS_c A c r.set _ _ HOS.out (by omega) (by omega) hslen).mono ?_
  rintro e w2 ⟨rfl, os2, g2⟩
  have T2 := Touch.of_grown g2
  have n2 : w2.cell? ⟨w.heap.size, 2, none⟩ = some (.slice K r.kids.length ck) := by
    rw [World.cell?_of_block (w := wa) (T2.block w.heap.size M0.out.lt fun hv => by have := HF1.out _ hv; omega), M0.out.cell]
    rfl
  have HT2 := Lib.hid T2
  have HOS2 := Lib.hid os2
  have HOK2 : Hid (OwnK w2 fk r.kids (.slice K r.kids.length ck) L) := HOK.out.stay fun b hb => T2.block b (HOK.out.lt b hb) fun hv => by
    have n := HND.out
    rw [HFP.out] at n
    exact (List.nodup_append.1 n).2.2 b hv b hb rfl
  clear T2 g2 os2 n1
  go_wp2_with fail
  refine (markRexS_c r fk K ck L _ _ HOK2.out (by omega) (by omega)).mono ?_
  rintro e w3 ⟨rfl, ok3, t3⟩
  have HOK3 := Lib.hid ok3
  have HT3 := Lib.hid t3
  clear n2 ok3 t3
  go_wp2
  go_ret
  refine ⟨rfl, ?_, ?_⟩
  · have hos3 : OwnSp w3 0 (.slice A r.set.length c) (markSps q r.set) := HOS2.out.stay fun b hb => HT3.out.block b (HOS2.out.lt b hb).2 fun hv => by
      have n := HND.out
      rw [HFP.out] at n
      exact (List.nodup_append.1 n).2.2 b hb b hv rfl
    have hT := OwnT.of (k := r.kind) hos3 HOK3.out (by rw [← HFP.out]; exact HND.out)
    rw [← HFP.out] at hT
    exact hT
  · exact (Touch.of_below HB.out).trans ((HT2.out.wide fun b hb => by rw [HFP.out]; simp [hb]).trans (HT3.out.wide fun b hb => by rw [HFP.out]; simp [hb]))

end Go.Proofs.YtfeidjjabjejiaaGreatDoor

/- Marks and holds of results in memory. -/
namespace Go.Proofs.YtfeidjjabjejiaaGreatDoor
set_option linter.unusedSimpArgs false
set_option linter.unusedVariables false
set_option maxRecDepth 100000
open Go.RowKit

theorem OwnSp.row {w : World} {base c : Nat} {A : Option Addr} {xs ys : List Sp} (h : OwnSp w base (.slice A xs.length c) ys) : Sps w base A c ys := by
  obtain ⟨A', c', e, s⟩ := h.sps
  injection e with e1 e2 e3
  subst e1 e3
  exact s
theorem OwnSp.moved {w w1 : World} {base : Nat} {v : Value} {xs : List Sp} (h : OwnSp w base v xs) (hm : ∀ k, v.ownBlock = some k → w1.heap[k]? = w.heap[k]?) : OwnSp w1 base v xs := ⟨own_move h.own hm, h.len⟩
theorem held2_c (A : Option Addr) (c : Nat) (xs : List Sp) (q : Int) (w : World) {base : Nat} (h : OwnSp w base (.slice A xs.length c) (markSps q xs)) (h0 : 0 ≤ q) (h1 : q ≤ 1073741824) (hx : xs.length ≤ 1073741824) :
    Calls Tryz.prog 77 #[.slice A xs.length c, .int .i64 q] w fun e w' => e = .returned (.int .i64 (q + 2 * (xs.length : Int))) ∧ Drawn w w' := by
  have := heldSpanS_c A c (markSps q xs) xs q w rfl h.row h0 h1 (by rw [markSps_length]; exact hx)
  rw [markSps_length] at this
  exact this
theorem spansOf_len (f : Nat → Bool) : (spansOf f).length ≤ 256 := spansTo_length f 256
theorem setJoin_len (xs ys : List Sp) : (setJoin xs ys).length ≤ 256 := by
  unfold setJoin; split
  · exact spansOf_len _
  · simp
theorem setMeet_len (xs ys : List Sp) : (setMeet xs ys).length ≤ 256 := by
  unfold setMeet; split
  · exact spansOf_len _
  · simp
theorem setNot_len (xs : List Sp) : (setNot xs).length ≤ 256 := by
  unfold setNot; split
  · exact spansOf_len _
  · simp

end Go.Proofs.YtfeidjjabjejiaaGreatDoor

/- heldRex, heldRexS. -/
namespace Go.Proofs.YtfeidjjabjejiaaGreatDoor
set_option linter.unusedSimpArgs false
set_option linter.unusedVariables false
set_option maxRecDepth 100000
open Go.RowKit

theorem markN_set (q : Int) (r : Rex) : (markN q r).set = markSps (q + 1) r.set := by rw [markN_of]; rfl
theorem markN_kids (q : Int) (r : Rex) : (markN q r).kids = markL (q + 1 + 2 * (r.set.length : Int)) r.kids := by rw [markN_of]; rfl
theorem markN_kind (q : Int) (r : Rex) : (markN q r).kind = q := by rw [markN_of]; rfl
def HeldOk (ks : List Rex) : Prop := ∀ (ms : List Rex) (K : Option Addr) (ck : Nat) (q : Int) (w : World) (lo : Nat), ms = markL q ks → Kids w lo K ck ms → 0 ≤ q → q + cntL ks ≤ 1073741824 →
  Calls Tryz.prog 78 #[.slice K ms.length ck, .int .i64 q] w fun e w' => e = .returned (.int .i64 (q + cntL ks)) ∧ Drawn w w'

set_option maxHeartbeats 4000000 in
theorem heldRexS_of (ks : List Rex) (ih : ∀ r, r ∈ ks → HeldOk r.kids) : HeldOk ks := by
  intro ms K ck q w lo hms h h0 h1
  have hlen := h.len
  unfold maxN at hlen
  have HMS := Lib.hid hms
  have HLN : Hid (ms.length = ks.length) := by rw [hms]; exact markL_length ks q
  have HK := Lib.hid h
  clear hms h
  go_enter Tryz.func78, Tryz.ntmps78
  go_wp2
  go_loopg [1, 5] (ms.length) (fun n q' i wr => ∃ j : Nat, j + n = ms.length ∧ i = .int .i64 j ∧ (∃ p : Nat, q' = .int .i64 (q + p) ∧ Hid (p = cntL (ks.take j))) ∧ Drawn w wr)
  case atStart => exact ⟨0, by omega, rfl, ⟨0, by simp, by simp [Hid, cntL]⟩, Drawn.refl _⟩
  case round =>
    obtain ⟨j, hj, rfl, ⟨p, rfl, HP⟩, m, rfl⟩ := hrel
    have hle := cntL_take_le ks j
    rw [← HP.out] at hle
    by_cases hlt : j < ms.length
    · have hlt' : j < ks.length := by have := HLN.out; omega
      obtain ⟨r, hr⟩ : ∃ r, ks[j]? = some r := ⟨ks[j], List.getElem?_eq_getElem hlt'⟩
      obtain ⟨a, x, v1, v2, rfl, HX, HD, HV, c0, c1, c2⟩ := HK.out.at_ j hlt
      have ex : x = markN (q + p) r := by
        have e := HX.out
        rw [HMS.out, markL_get hr, ← HP.out] at e
        exact (Option.some.inj e).symm
      subst ex
      obtain ⟨A, c, K', ck', _, rfl, rfl, sp, kd⟩ := HV.out.parts
      have hct := cntL_take hr
      have hcl := cntL_take_le ks (j + 1)
      have hcn := cnt_of r
      rw [← HP.out] at hct
      have hmem := List.mem_of_getElem? hr
      have HCT := Lib.hid hct
      have HCN := Lib.hid hcn
      have hb1 : q + (p : Int) + 1 + 2 * (r.set.length : Int) + cntL r.kids ≤ 1073741824 := by omega
      have hsl : r.set.length ≤ 1073741824 := by omega
      rw [markN_kind] at c0
      rw [markN_set] at c1 sp
      rw [markN_kids] at c2 kd
      rw [markSps_length] at c1
      have HSP := Lib.hid sp
      have HKD := Lib.hid kd
      clear hct hcl hcn hle hr sp kd HD HX HV
      go_wp2_with fail
      have hh := heldSpanS_c A c (markSps (q + p + 1) r.set) r.set (q + p + 1) (w.drewN m) rfl (HSP.out.below (below_drewN (Below.refl _ _) m)) (by omega) (by omega) (by rw [markSps_length]; exact hsl)
      rw [markSps_length] at hh
      refine hh.mono ?_
      clear hh
      rintro e w2 ⟨rfl, m2, rfl⟩
      have hq1 : ¬ (q + (p : Int) + 1 + 2 * (r.set.length : Int) < 0) := by omega
      go_wp2_with fail
      refine (ih r hmem _ K' ck' _ _ lo rfl (HKD.out.below (below_drewN (Below.refl _ _) _)) (by omega) (by omega)).mono ?_
      rintro e w3 ⟨rfl, m3, rfl⟩
      have hq2 : ¬ (q + (p : Int) + 1 + 2 * (r.set.length : Int) + (cntL r.kids : Int) < 0) := by omega
      clear c0 c1 c2
      go_wp2
      go_roundg (gk - 1)
      case rel =>
        have hct := HCT.out
        have hcn := HCN.out
        refine ⟨j + 1, by omega, by go_num, ⟨p + (1 + r.cnt), by congr 1; omega, hct.symm⟩, ?_⟩
        exact ⟨_, rfl⟩
      case measure => omega
    · go_wp2
      go_ret
      have hj' : j = ks.length := by have := HLN.out; omega
      exact ⟨ret_int (by rw [HP.out, hj', List.take_length]), _, rfl⟩

theorem heldRexS_c (r : Rex) : HeldOk r.kids := by
  refine Rex.ind (p := fun r => HeldOk r.kids) (fun k s ks ih => ?_) r
  exact heldRexS_of ks ih

set_option maxHeartbeats 2000000 in
theorem heldRex_c (r : Rex) (v1 v2 : Value) (q : Int) (w : World) (lo : Nat) (h : RexV w lo (markT q r) (.int .i64 r.kind) v1 v2) (h0 : 0 ≤ q) (h1 : q + r.cnt ≤ 1073741824) :
    Calls Tryz.prog 27 #[.agg #[.int .i64 r.kind, v1, v2], .int .i64 q] w fun e w' => e = .returned (.int .i64 (q + r.cnt)) ∧ Below w.heap.size w w' := by
  obtain ⟨A, c, K, ck, _, rfl, rfl, sp, kd⟩ := h.parts
  simp only [markT, set_mk, kids_mk, markSps_length, markL_length] at sp kd ⊢
  have hcn := cnt_of r
  have hb1 : q + 2 * (r.set.length : Int) + cntL r.kids ≤ 1073741824 := by omega
  have hslen : r.set.length ≤ 1073741824 := by omega
  have hcn' : q + (r.cnt : Int) = q + 2 * (r.set.length : Int) + cntL r.kids := by omega
  rw [hcn']
  clear hcn hcn' h1 h
  obtain ⟨wa, hwa⟩ : ∃ x, x = w.alloc (.cells #[.int .i64 r.kind, .slice A r.set.length c, .slice K r.kids.length ck] TRx) := ⟨_, rfl⟩
  have hb : Below w.heap.size w wa := by rw [hwa]; exact below_alloc (Below.refl _ _) _
  have m0 : Blk wa w.heap.size #[.int .i64 r.kind, .slice A r.set.length c, .slice K r.kids.length ck] TRx := by rw [hwa]; exact blk_new w _ _
  replace hwa := hwa.symm
  have HB := Lib.hid hb
  have M0 := Lib.hid m0
  have HSP := Lib.hid (sp.below hb)
  have HKD := Lib.hid (kd.below hb)
  have n1 : wa.cell? ⟨w.heap.size, 1, none⟩ = some (.slice A r.set.length c) := by rw [m0.cell]; rfl
  clear hb m0 sp kd
  go_enter Tryz.func27, Tryz.ntmps27
  go_wp2_with fail
  clear hwa
  have hh := heldSpanS_c A c (markSps q r.set) r.set q wa rfl HSP.out (by omega) (by omega) (by rw [markSps_length]; exact hslen)
  rw [markSps_length] at hh
  refine hh.mono ?_
  clear hh
  rintro e w2 ⟨rfl, d2⟩
  have B2 := Lib.hid d2.below
  have n2 : w2.cell? ⟨w.heap.size, 2, none⟩ = some (.slice K r.kids.length ck) := by rw [(M0.out.below d2.below).cell]; rfl
  have hq1 : ¬ (q + 2 * (r.set.length : Int) < 0) := by omega
  clear n1 d2
  go_wp2_with fail
  have hh := heldRexS_c r _ K ck _ w2 lo rfl (HKD.out.below B2.out) (by omega) (by omega)
  rw [markL_length] at hh
  refine hh.mono ?_
  clear hh
  rintro e w3 ⟨rfl, d3⟩
  have hq2 : ¬ (q + 2 * (r.set.length : Int) + (cntL r.kids : Int) < 0) := by omega
  have B3 := Lib.hid (below_then HB.out (below_then B2.out d3.below))
  clear n2 d3
  go_wp2
  go_ret
  exact ⟨rfl, B3.out⟩

end Go.Proofs.YtfeidjjabjejiaaGreatDoor

/- The contracts of the laws' functions on trees, bare. -/
namespace Go.Proofs.YtfeidjjabjejiaaGreatDoor
set_option linter.unusedSimpArgs false
set_option linter.unusedVariables false
set_option maxRecDepth 100000
open Go.RowKit

theorem toRex_r (r : Rex) (v1 v2 : Value) (w : World) (lo : Nat) (h : RexV w lo r (.int .i64 r.kind) v1 v2) (hx : r.size ≤ 1048576) :
    Calls Tryz.prog 24 #[.agg #[.int .i64 r.kind, v1, v2]] w fun e w' => ∃ u1 u2, e = .returned (.agg #[.int .i64 r.kind, u1, u2]) ∧ RexV w' w.heap.size r (.int .i64 r.kind) u1 u2 ∧ Below w.heap.size w w' := toRex_v r v1 v2 w lo h hx
theorem eqRex_r (r r' : Rex) (v1 v2 u1 u2 : Value) (w : World) (lo lo' : Nat) (h : RexV w lo r (.int .i64 r.kind) v1 v2) (h' : RexV w lo' r' (.int .i64 r'.kind) u1 u2) :
    Calls Tryz.prog 25 #[.agg #[.int .i64 r.kind, v1, v2], .agg #[.int .i64 r'.kind, u1, u2]] w fun e w' => e = .returned (.bool (rexEq r r')) ∧ Below w.heap.size w w' := eqRex_c r r' v1 v2 u1 u2 w lo lo' h h'

end Go.Proofs.YtfeidjjabjejiaaGreatDoor

/- Blocks and worlds behind marks; how many numbers a tree holds. -/
namespace Go.Proofs.YtfeidjjabjejiaaGreatDoor
set_option linter.unusedSimpArgs false
set_option linter.unusedVariables false
set_option maxRecDepth 100000
open Go.RowKit

theorem Blk.touch {w w' : World} {g : Nat} {cs : Array Value} {t : TypeId} {fp : List Nat} (h : Blk w g cs t) (ht : Touch fp w w') (hn : g ∉ fp) : Blk w' g cs t := ⟨(ht.block g h.lt hn).trans h.eq⟩
theorem below_touch {w w1 w' : World} {fp : List Nat} (h : Below w.heap.size w w1) (ht : Touch fp w1 w') (hf : ∀ b, b ∈ fp → w.heap.size ≤ b) : Below w.heap.size w w' := h.trans (ht.below hf h.size)
theorem cnt_size (r : Rex) : r.cnt ≤ 2 * r.size := by
  refine Rex.rec (motive_1 := fun r => r.cnt ≤ 2 * r.size) (motive_2 := fun l => cntL l ≤ 2 * sizeL l + l.length) ?_ ?_ ?_ r
  · intro k s ks ih
    rw [Rex.cnt, Rex.size]
    omega
  · simp [cntL]
  · intro x xs h1 h2
    rw [cntL, sizeL, List.length_cons]
    omega

end Go.Proofs.YtfeidjjabjejiaaGreatDoor
