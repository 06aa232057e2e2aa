/- Texts joined for the claims: Rw W1h Tx Ty Tv Ti Tj. -/
import Derived.Test.YtfeidjjabjejiaaGreatDoorG3
import Derived.Test.YtfeidjjabjejiaaGreatDoorG5
import Derived.Test.YtfeidjjabjejiaaGreatDoorG1
import Derived.Lib.ItoaMem
import Derived.Lib.ItoaLen
import Derived.Lib.Join
import Derived.Laws.IdiomStrings
import Derived.Test.YtfeidjjabjejiaaGreatDoorG2
import Derived.Deep.CutBlock
import Derived.Sort.Grow
import Derived.BigQuiet
import Derived.StillTailTactics
import Derived.Test.YtfeidjjabjejiaaGreatDoorG4
/- Rows of trees that a call made and lets grow, the trees' parts lying elsewhere. -/
namespace Go.Proofs.YtfeidjjabjejiaaGreatDoor
set_option linter.unusedSimpArgs false
set_option linter.unusedVariables false
set_option maxRecDepth 100000
open Go.RowKit

/-- a row of trees in a block of its own; their parts lie in p, and not in that block -/
structure OwnR (w : World) (base : Nat) (p : Nat → Prop) (v : Value) (rs : List Rex) (L : List KInfo) : Prop where
  own : w.ownsRow base TRx 3 v rs.length (kcells rs L)
  len : L.length = rs.length
  le : rs.length ≤ maxN
  hr : ∀ (i : Nat) (r : Rex) (x : KInfo), rs[i]? = some r → L[i]? = some x → RexP w (fun b => p b ∧ b ∉ vblk v) r (.int .i64 r.kind) x.v1 x.v2
theorem OwnR.nil (w : World) (base : Nat) (p : Nat → Prop) : OwnR w base p nilS [] [] :=
  ⟨by simpa [kcells] using World.ownsRow_nil w base TRx 3, rfl, by simp, fun i r x h => by simp at h⟩
theorem OwnR.mono {w : World} {base : Nat} {p p' : Nat → Prop} {v : Value} {rs : List Rex} {L : List KInfo} (h : OwnR w base p v rs L) (hp : ∀ b, p b → p' b) : OwnR w base p' v rs L :=
  ⟨h.own, h.len, h.le, fun i r x a b => (h.hr i r x a b).mono fun b hb => ⟨hp b hb.1, hb.2⟩⟩
theorem OwnR.lower {w : World} {base base' : Nat} {p : Nat → Prop} {v : Value} {rs : List Rex} {L : List KInfo} (h : OwnR w base p v rs L) (hb : base' ≤ base) : OwnR w base' p v rs L := ⟨own_lower h.own hb, h.len, h.le, h.hr⟩
theorem OwnR.lt {w : World} {base : Nat} {p : Nat → Prop} {v : Value} {rs : List Rex} {L : List KInfo} (h : OwnR w base p v rs L) : OwnR w base (fun b => p b ∧ b < w.heap.size) v rs L :=
  ⟨h.own, h.len, h.le, fun i r x a b => (h.hr i r x a b).lt.mono fun b hb => ⟨⟨hb.1.1, hb.2⟩, hb.1.2⟩⟩
/-- it stays where its block and the parts' blocks stay -/
theorem OwnR.keep {w w' : World} {base : Nat} {p : Nat → Prop} {v : Value} {rs : List Rex} {L : List KInfo} (h : OwnR w base p v rs L) (hv : ∀ b, b ∈ vblk v → w'.heap[b]? = w.heap[b]?) (hp : ∀ b, p b → b < w.heap.size → w'.heap[b]? = w.heap[b]?) : OwnR w' base p v rs L :=
  ⟨own_move h.own fun k hk => hv k (mem_vblk.2 hk), h.len, h.le, fun i r x a b => (h.hr i r x a b).keep fun b hb hl => hp b hb.1 hl⟩
theorem OwnR.under {w w' : World} {base : Nat} {p : Nat → Prop} {v : Value} {rs : List Rex} {L : List KInfo} (h : OwnR w base p v rs L) (hb : Below w.heap.size w w') : OwnR w' base p v rs L :=
  h.keep (fun b hv => hb.block b (own_vlt h.own b hv).2) fun b _ hl => hb.block b hl
/-- an element -/
theorem OwnR.at_ {w : World} {base : Nat} {p : Nat → Prop} {v : Value} {rs : List Rex} {L : List KInfo} (h : OwnR w base p v rs L) (i : Nat) (hi : i < rs.length) :
    ∃ g cap r A c K ck, v = .slice (some ⟨g, 0, none⟩) rs.length cap ∧ rs[i]? = some r ∧ L[i]? = some ⟨(L.getD i ⟨[], undef, undef⟩).fp, .slice A r.set.length c, .slice K r.kids.length ck⟩ ∧
      RexP w (fun b => p b ∧ b ∉ vblk v) r (.int .i64 r.kind) (.slice A r.set.length c) (.slice K r.kids.length ck) ∧
      w.cell? ⟨g, i * 3, none⟩ = some (.int .i64 r.kind) ∧ w.cell? ⟨g, i * 3 + 1, none⟩ = some (.slice A r.set.length c) ∧ w.cell? ⟨g, i * 3 + 2, none⟩ = some (.slice K r.kids.length ck) := by
  obtain ⟨r, hr⟩ : ∃ r, rs[i]? = some r := ⟨_, List.getElem?_eq_getElem hi⟩
  have hL : i < L.length := by rw [h.len]; exact hi
  obtain ⟨x, hx⟩ : ∃ x, L[i]? = some x := ⟨_, List.getElem?_eq_getElem hL⟩
  have hv := h.hr i r x hr hx
  obtain ⟨A, c, K, ck, _, e1, e2, _⟩ := hv.parts
  obtain ⟨g, cap, e, _⟩ := own_form h.own (by omega)
  obtain ⟨g0, g1, g2⟩ := kcells_get rs L i r x hr hx h.len.symm
  have hc : ∀ j u, (kcells rs L)[j]? = some u → w.cell? ⟨g, j, none⟩ = some u := fun j u hj => by
    have ho := h.own
    rw [e] at ho
    have := ho.cellAt j (by have := (List.getElem?_eq_some_iff.1 hj).1; rw [kcells_length rs L h.len.symm] at this; omega)
    rw [this, hj]
  have ex : x = ⟨(L.getD i ⟨[], undef, undef⟩).fp, .slice A r.set.length c, .slice K r.kids.length ck⟩ := by
    have : L.getD i ⟨[], undef, undef⟩ = x := by simp [List.getD_eq_getElem?_getD, hx]
    rw [this, ← e1, ← e2]
  rw [e1, e2] at hv
  rw [e1] at g1
  rw [e2] at g2
  exact ⟨g, cap, r, A, c, K, ck, e, hr, by rw [hx, ← ex], hv, hc _ _ g0, hc _ _ g1, hc _ _ g2⟩
/-- one more at its end: what append leaves -/
theorem OwnR.snoc {w w1 w' : World} {base : Nat} {p : Nat → Prop} {v v' : Value} {rs : List Rex} {L : List KInfo} {r : Rex} {v1 v2 : Value} (h : OwnR w base p v rs L) (hr : RexP w (fun b => p b ∧ b ∉ vblk v) r (.int .i64 r.kind) v1 v2)
    (hb : Below w.heap.size w w1) (he : w'.ownsRow base TRx 3 v' (rs.length + 1) (kcells rs L ++ [.int .i64 r.kind, v1, v2])) (hg : w1.grownBy w' v.ownBlock) (hat : ∀ b, b ∈ vblk v' → b ∈ vblk v ∨ b = w1.heap.size) (hn : rs.length + 1 ≤ maxN) (fp : List Nat) :
    OwnR w' base p v' (rs ++ [r]) (L ++ [⟨fp, v1, v2⟩]) := by
  have hlen := h.len
  have stay : ∀ {x : Rex} {u1 u2 : Value}, RexP w (fun b => p b ∧ b ∉ vblk v) x (.int .i64 x.kind) u1 u2 → RexP w' (fun b => p b ∧ b ∉ vblk v') x (.int .i64 x.kind) u1 u2 := fun {x u1 u2} hx => by
    have h1 := hx.lt
    refine ((h1.keep (w' := w') fun b hp hl => ?_).mono fun b hp => ⟨hp.1.1, fun hv => ?_⟩)
    · rw [hg.block b (Nat.lt_of_lt_of_le hl hb.size) fun e => hp.1.2 (mem_vblk.2 e.symm), hb.block b hl]
    · rcases hat b hv with hv | hv
      · exact hp.1.2 hv
      · have := hp.2; have := hb.size; omega
  refine ⟨?_, by simp [hlen], by simpa using hn, fun i x y hi hx => ?_⟩
  · rw [kcells_append _ _ _ ⟨fp, v1, v2⟩ hlen.symm, List.length_append, List.length_singleton]
    exact he
  · by_cases e : i < rs.length
    · rw [List.getElem?_append_left (by omega)] at hx
      rw [List.getElem?_append_left e] at hi
      exact stay (h.hr i x y hi hx)
    · have e2 : i = rs.length := by have := (List.getElem?_eq_some_iff.1 hi).1; simp at this; omega
      subst e2
      rw [List.getElem?_append_right (Nat.le_refl _)] at hi
      rw [List.getElem?_append_right (by omega)] at hx
      simp [hlen] at hi hx
      subst hi hx
      exact stay hr
theorem add_g (g n : Nat) : (⟨g, 0, none⟩ : Addr).add n = ⟨g, n, none⟩ := by simp [Addr.add]; exact fun h => h.symm
/-- as kids -/
theorem OwnR.kids {w : World} {base : Nat} {p : Nat → Prop} {v : Value} {rs : List Rex} {L : List KInfo} (h : OwnR w base p v rs L) : ∃ K ck, v = .slice K rs.length ck ∧ KidsP w (fun b => p b ∨ b ∈ vblk v) K ck rs := by
  obtain ⟨K, ck, e, hc, hrow⟩ := own_row h.own
  refine ⟨K, ck, e, ⟨⟨fun i => .int .i64 (rs.getD i default).kind, fun i => (L.getD i ⟨[], undef, undef⟩).v1, fun i => (L.getD i ⟨[], undef, undef⟩).v2, fun i hi => ?_, fun i r hi => ?_⟩, hc, h.le, fun a ea hne => ?_⟩⟩
  · obtain ⟨g, cap, r, A, c, K', ck', e', hr, hx, _, c0, c1, c2⟩ := h.at_ i hi
    rw [e] at e'
    injection e' with e1 _ _
    have er : rs.getD i default = r := by simp [List.getD_eq_getElem?_getD, hr]
    have ex : L.getD i ⟨[], undef, undef⟩ = ⟨(L.getD i ⟨[], undef, undef⟩).fp, .slice A r.set.length c, .slice K' r.kids.length ck'⟩ := by
      have := congrArg (fun o : Option KInfo => o.getD ⟨[], undef, undef⟩) hx
      rw [List.getD_eq_getElem?_getD]
      exact this
    have ead := add_g g (i * 3)
    refine ⟨⟨g, 0, none⟩, e1, Nat.zero_le _, ?_, ?_, ?_⟩
    · rw [ead, c0]; show some (Value.int .i64 r.kind) = some (.int .i64 (rs.getD i default).kind); rw [er]
    · rw [ead, c1]; show _ = some (L.getD i ⟨[], undef, undef⟩).v1; rw [ex]
    · rw [ead, c2]; show _ = some (L.getD i ⟨[], undef, undef⟩).v2; rw [ex]
  · have hi' := (List.getElem?_eq_some_iff.1 hi).1
    have er : rs.getD i default = r := by simp [List.getD_eq_getElem?_getD, hi]
    have hL : i < L.length := by rw [h.len]; exact hi'
    have ex : L[i]? = some (L.getD i ⟨[], undef, undef⟩) := by simp [List.getD_eq_getElem?_getD, hL]
    show RexP w _ r (.int .i64 (rs.getD i default).kind) _ _
    rw [er]
    exact (h.hr i r _ hi ex).mono fun b hb => .inl hb.1
  · right
    have hpos : 0 < rs.length := List.length_pos_iff.2 hne
    obtain ⟨g, cap, e', _⟩ := own_form h.own hpos
    rw [e] at e'
    injection e' with e1 _ _
    rw [ea] at e1
    injection e1 with e1
    rw [e, ea, e1]
    simp [vblk_some]

end Go.Proofs.YtfeidjjabjejiaaGreatDoor

/- in, SetHas. -/
namespace Go.Proofs.YtfeidjjabjejiaaGreatDoor
set_option linter.unusedSimpArgs false
set_option linter.unusedVariables false
set_option maxRecDepth 100000
open Go.RowKit

theorem in_c (n lo hi : Int) (w : World) :
    Calls Tryz.prog 55 #[.int .i64 n, .int .i64 lo, .int .i64 hi] w fun e w' => e = .returned (.bool (decide (lo ≤ n) && decide (n ≤ hi))) ∧ w = w' := by
  go_enter Tryz.func55, Tryz.ntmps55
  go_wp2
  all_goals go_ret
  · exact ⟨ret_bool (by rw [decide_eq_true (by assumption : lo ≤ n)]; rfl), rfl⟩
  · exact ⟨ret_bool (by rw [decide_eq_false (by omega : ¬ lo ≤ n)]; rfl), rfl⟩

theorem spIn_true {x : Sp} {b : Int} (h : x.lo ≤ b ∧ b ≤ x.hi) : spIn x b = true := (spIn_iff x b).2 h
theorem spIn_false {x : Sp} {b : Int} (h : b < x.lo ∨ x.hi < b) : spIn x b = false := by
  rw [Bool.eq_false_iff]
  intro hc
  have := (spIn_iff x b).1 hc
  omega

theorem iSetHas_c (A : Option Addr) (c : Nat) (xs : List Sp) (b : Int) (w : World) {lo : Nat} (h : Sps w lo A c xs) :
    Calls Tryz.prog 109 #[.slice A xs.length c, .int .i64 b] w fun e w' => e = .returned (.bool (setHas xs b)) ∧ Below w.heap.size w w' := by
  have hlen := h.len
  unfold maxN at hlen
  go_enter Tryz.func109, Tryz.ntmps109
  go_wp2
  go_loopg [9] (xs.length) (fun n i wr => ∃ k : Nat, k + n = xs.length ∧ i = .int .i64 k ∧ Hid (setHas (xs.drop k) b = setHas xs b) ∧ Below w.heap.size w wr)
  case atStart => exact ⟨0, by omega, rfl, by rw [List.drop_zero]; rfl, Below.refl _ _⟩
  case round =>
    obtain ⟨k, hk, rfl, HS, hb⟩ := hrel
    by_cases hlt : k < xs.length
    · obtain ⟨a, x, rfl, _, HD, h0, h1⟩ := (h.below hb).at_ k hlt
      go_wp2_with (go_at_call 55; refine (in_c _ _ _ _).mono ?_; rintro e w' ⟨rfl, rfl⟩)
      · go_ret
        exact ⟨ret_bool (by rw [← HS.out, HD.out, setHas_cons, spIn_true (by assumption)]; rfl), below_alloc hb _⟩
      · go_roundg (gk - 1)
        case rel => exact ⟨k + 1, by omega, by go_num, by rw [← HS.out, HD.out, setHas_cons, spIn_false (by assumption)]; rfl, below_alloc hb _⟩
        case measure => omega
    · go_wp2
      go_ret
      exact ⟨ret_bool (by rw [← HS.out, List.drop_of_length_le (by omega)]; rfl), hb⟩

theorem sSetHas_c (A : Option Addr) (c : Nat) (xs : List Sp) (b : Int) (w : World) {lo : Nat} (h : Sps w lo A c xs) :
    Calls Tryz.prog 111 #[.slice A xs.length c, .int .i64 b] w fun e w' => e = .returned (.bool (setHas xs b)) ∧ Drawn w w' := by
  have hlen := h.len
  unfold maxN at hlen
  go_enter Tryz.func111, Tryz.ntmps111
  go_wp2
  go_loopg [5] (xs.length) (fun n i wr => ∃ k : Nat, k + n = xs.length ∧ i = .int .i64 k ∧ Hid (setHas (xs.drop k) b = setHas xs b) ∧ Drawn w wr)
  case atStart => exact ⟨0, by omega, rfl, by rw [List.drop_zero]; rfl, 0, rfl⟩
  case round =>
    obtain ⟨k, hk, rfl, HS, n, rfl⟩ := hrel
    by_cases hlt : k < xs.length
    · obtain ⟨a, x, rfl, _, HD, h0, h1⟩ := h.at_ k hlt
      by_cases h2 : x.lo ≤ b
      · go_wp2
        · go_ret
          exact ⟨ret_bool (by rw [← HS.out, HD.out, setHas_cons, spIn_true ⟨h2, by assumption⟩]; rfl), n, rfl⟩
        · go_roundg (gk - 1)
          case rel => exact ⟨k + 1, by omega, by go_num, by rw [← HS.out, HD.out, setHas_cons, spIn_false (.inr (by omega))]; rfl, n, rfl⟩
          case measure => omega
      · go_wp2
        go_roundg (gk - 1)
        case rel => exact ⟨k + 1, by omega, by go_num, by rw [← HS.out, HD.out, setHas_cons, spIn_false (.inl (by omega))]; rfl, n, rfl⟩
        case measure => omega
    · go_wp2
      go_ret
      exact ⟨ret_bool (by rw [← HS.out, List.drop_of_length_le (by omega)]; rfl), n, rfl⟩

end Go.Proofs.YtfeidjjabjejiaaGreatDoor

/- Numbers and sets as texts: plain; l15Dec of the reference. -/
namespace Go.Proofs.YtfeidjjabjejiaaGreatDoor
set_option linter.unusedSimpArgs false
set_option linter.unusedVariables false
set_option maxRecDepth 100000
open Go.RowKit

def str (l : List UInt8) : ByteArray := ⟨l.toArray⟩
theorem str_append (a b : List UInt8) : str a ++ str b = str (a ++ b) := by
  apply ByteArray.ext
  simp [str]
theorem str_size (a : List UInt8) : (str a).size = a.length := by simp [str, ByteArray.size]
def in64 (n : Int) : Prop := -9223372036854775808 ≤ n ∧ n ≤ 9223372036854775807
/-- the digits of u, ahead of what there is -/
theorem dec_step {u : Nat} (h : 9 < u) (l : List UInt8) : Lib.decDigits (u / 10) ++ (UInt8.ofNat (48 + u % 10) :: l) = Lib.decDigits u ++ l := by
  rw [show Lib.decDigits u = Lib.decDigits (u / 10) ++ [UInt8.ofNat (48 + u % 10)] by rw [Lib.decDigits, dif_neg (by omega)]]
  simp
theorem dec_last {u : Nat} (h : ¬ 9 < u) (l : List UInt8) : UInt8.ofNat (48 + u) :: l = Lib.decDigits u ++ l := by
  rw [Lib.decDigits, dif_pos (by omega)]
  rfl
theorem dec_len {u : Nat} (h : u ≤ 9223372036854775808) : (Lib.decDigits u).length ≤ 21 := by
  rw [Lib.decDigits_length]
  have := Lib.nDigits_le20 u (by omega)
  omega

/-- one byte as a text -/
theorem conv1 (w : World) (d : UInt8) (z : Int) (hz : z = (d.toNat : Int)) : (convert 22 9 (.slice (some ⟨w.heap.size, 0, none⟩) 1 1)).run Tryz.prog (w.alloc (.cells #[.int .u8 z] 5)) = .ok (.string (str [d])) (w.alloc (.cells #[.int .u8 z] 5)) := by
  refine run_convert_bytes_back _ _ _ 5 ⟨w.heap.size, 0, none⟩ 1 [d] Tryz.underlying22 Tryz.underlying5 Tryz.underlying9 fun j hj => ?_
  have h0 : j = 0 := by simpa using hj
  subst h0
  subst hz
  have e0 : (⟨w.heap.size, 0, none⟩ : Addr).add 0 = ⟨w.heap.size, 0, none⟩ := by simp [Addr.add]
  rw [e0, cell_of_row (w.alloc (.cells #[.int .u8 (d.toNat : Int)] 5)) w.heap.size 0 #[.int .u8 (d.toNat : Int)] 5 (0, 0) (heap_alloc_new w _)]
  rfl
theorem digit (n : Nat) (hn : n < 10) : ∃ d : UInt8, d = UInt8.ofNat (48 + n) ∧ (48 : Int) + n = (d.toNat : Int) := ⟨_, rfl, by simp; omega⟩

set_option maxRecDepth 100000 in
set_option maxHeartbeats 1000000 in
theorem sDecPos_c (u : Nat) (w : World) (h : u ≤ 9223372036854775807) :
    Calls Tryz.prog 153 #[.int .i64 (u : Int)] w fun e w' => e = .returned (.string (str (Lib.decDigits u))) ∧ Below w.heap.size w w' := by
  have hl := dec_len (u := u) (by omega)
  go_enter Tryz.func153, Tryz.ntmps153
  have g1 : ¬ ((u : Int) < -9223372036854775807) := by omega
  have g2 : ¬ ((u : Int) < 0) := by omega
  go_wp2_with fail
  clear g1 g2
  go_loopg [0, 3] u (fun n v0 v3 wr => v0 = .int .i64 (n : Int) ∧ n ≤ u ∧ ∃ l : List UInt8, v3 = .string (str l) ∧ Hid (Lib.decDigits n ++ l = Lib.decDigits u) ∧ Hid (Below w.heap.size w wr))
  case atStart => exact ⟨rfl, Nat.le_refl _, [], rfl, by show _ = _; rw [List.append_nil], Below.refl _ _⟩
  case round =>
    obtain ⟨rfl, hgu, l, rfl, HL, HB⟩ := hrel
    by_cases hlt : 9 < gk
    · have g1 : (9 : Int) < (gk : Int) := by omega
      obtain ⟨d, hd, hz⟩ := digit (gk % 10) (by omega)
      have HD := Lib.hid hd
      have hcv := Lib.hid (conv1 wr d (48 + (gk : Int) % 10) (by omega))
      have hll : l.length ≤ 21 := by have := congrArg List.length HL.out; rw [List.length_append] at this; omega
      have hs1 := str_size l
      have hs2 : (str [d]).size = 1 := str_size _
      have hw : wrap64 ((gk : Int) / 10) = ((gk / 10 : Nat) : Int) := by rw [Go.IntWalk.wrap64_in _ (by omega)]; rfl
      clear hd hz
      go_wp2_with fail
      rw [hcv.out]
      clear hcv
      go_wp2_with fail
      go_roundg (gk / 10)
      case measure => omega
      case rel =>
        refine ⟨?_, by omega, d :: l, ?_, ?_, below_alloc HB.out _⟩
        · go_num
        · rw [str_append]; rfl
        · show _ = _; rw [HD.out, dec_step hlt, HL.out]
    · obtain ⟨d, hd, hz⟩ := digit gk (by omega)
      have HD := Lib.hid hd
      have hcv := Lib.hid (conv1 wr d (48 + (gk : Int)) (by omega))
      have hll : l.length ≤ 21 := by have := congrArg List.length HL.out; rw [List.length_append] at this; omega
      have hs1 := str_size l
      have hs2 : (str [d]).size = 1 := str_size _
      clear hd hz
      go_wp2_with fail
      rw [hcv.out]
      clear hcv
      go_wp2_with fail
      go_ret
      refine ⟨?_, below_alloc HB.out _⟩
      rw [← HL.out, ← dec_last hlt, ← HD.out]
      exact congrArg (fun x => Ending.returned (Value.string x)) (str_append [d] l)

set_option maxRecDepth 100000 in
set_option maxHeartbeats 1000000 in
theorem sDec_c (n : Int) (w : World) (h : in64 n) :
    Calls Tryz.prog 153 #[.int .i64 n] w fun e w' => e = .returned (.string (str (Lib.itoa n))) ∧ Below w.heap.size w w' := by
  by_cases h0 : 0 ≤ n
  · obtain ⟨u, rfl⟩ : ∃ u : Nat, n = u := ⟨n.toNat, by omega⟩
    rw [Lib.itoa_nonneg]
    exact sDecPos_c u w (by have := h.2; omega)
  · obtain ⟨u, rfl⟩ : ∃ u : Nat, n = -(u : Int) := ⟨n.natAbs, by omega⟩
    have hu : 1 ≤ u := by omega
    have hu2 : u ≤ 9223372036854775808 := by have := h.1; omega
    have E := Lib.hid (Lib.itoa_neg u hu)
    by_cases h1 : u = 9223372036854775808
    · subst h1
      go_enter Tryz.func153, Tryz.ntmps153
      go_wp2_with fail
      go_ret
      refine ⟨?_, Below.refl _ _⟩
      have e : Lib.itoa (-9223372036854775808) = [45, 57, 50, 50, 51, 51, 55, 50, 48, 51, 54, 56, 53, 52, 55, 55, 53, 56, 48, 56] := by decide +kernel
      rw [e]
      rfl
    · have g1 : ¬ (-(u : Int) < -9223372036854775807) := by omega
      have g2 : -(u : Int) < 0 := by omega
      have hn : IntKind.i64.wrap (- -(u : Int)) = (u : Int) := by rw [Int.neg_neg]; exact IntWalk.i64_in _ (by omega)
      have hl := dec_len (u := u) hu2
      go_enter Tryz.func153, Tryz.ntmps153
      go_wp2_with fail
      refine (sDecPos_c u w (by omega)).mono ?_
      rintro e w1 ⟨rfl, b1⟩
      have hs1 := str_size (Lib.decDigits u)
      clear g1 g2 hn
      go_wp2_with fail
      go_ret
      refine ⟨?_, b1⟩
      rw [E.out]
      exact congrArg (fun x => Ending.returned (Value.string x)) (str_append [45] _)

end Go.Proofs.YtfeidjjabjejiaaGreatDoor

/- Sets as texts: plain; SetText of the reference. -/
namespace Go.Proofs.YtfeidjjabjejiaaGreatDoor
set_option linter.unusedSimpArgs false
set_option linter.unusedVariables false
set_option maxRecDepth 100000
open Go.RowKit

def spanTxt (x : Sp) : List UInt8 := Lib.itoa x.lo ++ (if x.hi = x.lo then [] else 45 :: Lib.itoa x.hi)
def accTxt (xs : List Sp) : List UInt8 := Lib.join (xs.map spanTxt) [44]
def setTxt (xs : List Sp) : List UInt8 := if xs.length = 0 then [110, 111] else accTxt xs
def sp64 (xs : List Sp) : Prop := ∀ x ∈ xs, in64 x.lo ∧ in64 x.hi
theorem acc_snoc (xs : List Sp) (x : Sp) : accTxt (xs ++ [x]) = (if xs.length = 0 then [] else accTxt xs ++ [44]) ++ spanTxt x := by
  unfold accTxt
  cases xs with
  | nil => simp [Lib.join_one]
  | cons y ys =>
    have e : Lib.join ((y :: ys).map spanTxt) [44] = spanTxt y ++ Lib.joinTail [44] (ys.map spanTxt) := by rw [List.map_cons, Lib.join_cons]
    rw [if_neg (by simp), e, List.cons_append, List.map_cons, Lib.join_cons, List.map_append]
    simp [Lib.joinTail]
theorem itoa_pos (n : Int) : 1 ≤ (Lib.itoa n).length := by
  unfold Lib.itoa
  split
  · simp
  · rw [Lib.decDigits_length, Lib.nDigits]
    split <;> omega
theorem span_len {x : Sp} (h : in64 x.lo ∧ in64 x.hi) : 1 ≤ (spanTxt x).length ∧ (spanTxt x).length ≤ 43 := by
  have h1 := Lib.itoa_length_le x.lo h.1.1 h.1.2
  have h2 := Lib.itoa_length_le x.hi h.2.1 h.2.2
  have h3 := itoa_pos x.lo
  unfold spanTxt
  rw [List.length_append]
  split
  · simp; omega
  · rw [List.length_cons]; omega
theorem take_snoc {xs : List Sp} {k : Nat} {x : Sp} (h : xs[k]? = some x) : xs.take (k + 1) = xs.take k ++ [x] := by rw [List.take_add_one, h]; rfl
theorem acc_len (xs : List Sp) (h : sp64 xs) : ∀ k, k ≤ xs.length → (accTxt (xs.take k)).length ≤ 44 * k
  | 0, _ => by simp [accTxt, Lib.join_nil]
  | k + 1, hk => by
    have h1 := acc_len xs h k (by omega)
    have hx : xs[k]? = some xs[k] := List.getElem?_eq_getElem (by omega)
    have h2 := (span_len (h _ (List.mem_of_getElem? hx))).2
    rw [take_snoc hx, acc_snoc, List.length_append]
    split
    · simp; omega
    · rw [List.length_append, List.length_singleton]; omega
theorem acc_pos {xs : List Sp} (h : sp64 xs) (hn : xs.length ≠ 0) : 1 ≤ (accTxt xs).length := by
  rcases List.eq_nil_or_concat xs with rfl | ⟨ys, y, rfl⟩
  · simp at hn
  · rw [List.concat_eq_append] at h ⊢
    have := (span_len (h y (by simp))).1
    rw [acc_snoc, List.length_append]
    omega
theorem sp64_take {xs : List Sp} (h : sp64 xs) (k : Nat) : sp64 (xs.take k) := fun x hx => h x (List.mem_of_mem_take hx)
theorem below_grow (w : World) (k : Nat) (os : Array Obj) : Below w.heap.size w (Go.Sort.grow (w.drewN k) os) := by
  have h := below_drewN (Below.refl w.heap.size w) k
  refine ⟨h.os, h.tape, h.output, Nat.le_trans h.size (by simp [Go.Sort.grow]), fun b hb => ?_⟩
  rw [← h.block b hb]
  show ((w.drewN k).heap ++ os)[b]? = _
  exact Array.getElem?_append_left (Nat.lt_of_lt_of_le hb h.size)
theorem str_empty (l : List UInt8) : (str l).toList.isEmpty = l.isEmpty := by
  rw [ByteArray.toList_eq]
  rfl
theorem str_app (l : List UInt8) (b : UInt8) : str l ++ (⟨#[b]⟩ : ByteArray) = str (l ++ [b]) := str_append l [b]

set_option maxRecDepth 100000 in
set_option maxHeartbeats 2000000 in
theorem sSetText_c (A : Option Addr) (c : Nat) (xs : List Sp) (w : World) {lo : Nat} (h : Sps w lo A c xs) (h64 : sp64 xs) (hn : xs.length ≤ 1048576) :
    Calls Tryz.prog 130 #[.slice A xs.length c] w fun e w' => e = .returned (.string (str (setTxt xs))) ∧ Below w.heap.size w w' := by
  have H := Lib.hid h
  have H64 := Lib.hid h64
  clear h h64
  go_enter Tryz.func130, Tryz.ntmps130
  go_wp2_with fail
  go_loopg [3, 4] xs.length (fun n v3 v4 wr => ∃ k : Nat, k + n = xs.length ∧ v4 = .int .i64 k ∧ v3 = .string (str (accTxt (xs.take k))) ∧ Hid (Below w.heap.size w wr))
  case atStart => exact ⟨0, by omega, rfl, rfl, Below.refl _ _⟩
  case round =>
    obtain ⟨k, hk, rfl, rfl, HB⟩ := hrel
    by_cases hlt : k < xs.length
    · obtain ⟨a, x, rfl, HX, HD, h0, h1⟩ := (H.out.below HB.out).at_ k hlt
      have i0 : (0 : Int) ≤ (k : Int) := by omega
      have i1 : (k : Int) < (xs.length : Int) := by omega
      have hx := H64.out x (List.mem_of_getElem? HX.out)
      have hal := acc_len xs H64.out k (by omega)
      have hs1 := str_size (accTxt (xs.take k))
      have HT := Lib.hid (take_snoc HX.out)
      have HTK : Hid ((xs.take k).length = k) := by show _ = _; rw [List.length_take]; omega
      have hi0 := Lib.itoa_length_le x.lo hx.1.1 hx.1.2
      have hi1 := Lib.itoa_length_le x.hi hx.2.1 hx.2.2
      have hz0 := str_size (Lib.itoa x.lo)
      have hz1 := str_size (Lib.itoa x.hi)
      obtain ⟨acc, hacc⟩ : ∃ acc, acc = accTxt (xs.take k) := ⟨_, rfl⟩
      rw [← hacc] at hs1 hal
      have HACC := Lib.hid hacc
      clear hacc
      rw [← HACC.out]
      by_cases hk0 : k = 0
      · have g0 : decide ((0 : Int) < (k : Int)) = false := by simp; omega
        have g1 : (k : Int) ≤ 0 := by omega
        have g2 : decide (0 < k) = false := by simp; omega
        have EP : Hid (accTxt (xs.take (k + 1)) = acc ++ spanTxt x) := by
          show _ = _
          rw [HT.out, acc_snoc, HTK.out, if_pos hk0, HACC.out, hk0]
          rfl
        clear hk0
        go_wp2_with fail
        obtain ⟨pre, hpre⟩ : ∃ p, p = acc := ⟨_, rfl⟩
        have hpl : pre.length ≤ 44 * k + 1 := by rw [hpre]; omega
        rw [← hpre] at EP hs1 ⊢
        clear hpre g0 g1 g2
        refine (sDec_c x.lo wr hx.1).mono ?_
        rintro e w1 ⟨rfl, b1⟩
        have B1 := Lib.hid (below_then HB.out b1)
        have c0 := (b1.cell (World.block_lt_of_cell? wr _ h0)).trans h0
        have c1 := (b1.cell (World.block_lt_of_cell? wr _ h1)).trans h1
        clear b1 h0 h1
        by_cases hne : x.hi = x.lo
        · have d0 : decide (¬ x.hi = x.lo) = false := by simp [hne]
          have d1 : (x.hi != x.lo) = false := by simp [hne]
          have N0 : ∀ z : BW w1, z.w1.cell? (a.add (k * 2)) = some (.int .i64 x.lo) := fun z => z.cell c0
          have N1 : ∀ z : BW w1, z.w1.cell? ⟨(a.add (k * 2)).block, (a.add (k * 2)).off + 1, none⟩ = some (.int .i64 x.hi) := fun z => z.cell c1
          have HNE := Lib.hid hne
          clear c0 c1 hne
          go_wp2_with fail
          refine wp_region_bw (by kernel_rfl) (by kernel_rfl) ?_
          repeat (go_big_quiet_step ((fail)))
          refine wpQuiet_nil ?_
          rintro w2 ⟨x1, y1⟩
          have b2 : Below w1.heap.size w1 w2 := y1 ▸ x1.up
          clear y1 x1 N0 N1
          go_wp2_with fail
          go_roundg (gk - 1)
          case measure => omega
          case rel =>
            refine ⟨k + 1, by omega, by go_num, ?_, below_then B1.out b2⟩
            rw [EP.out, str_append]
            unfold spanTxt
            rw [if_pos HNE.out, List.append_nil]
        · have d0 : decide (¬ x.hi = x.lo) = true := by simp [hne]
          have d1 : (x.hi != x.lo) = true := by simp [hne]
          have N0 : ∀ z : BW w1, z.w1.cell? (a.add (k * 2)) = some (.int .i64 x.lo) := fun z => z.cell c0
          have N1 : ∀ z : BW w1, z.w1.cell? ⟨(a.add (k * 2)).block, (a.add (k * 2)).off + 1, none⟩ = some (.int .i64 x.hi) := fun z => z.cell c1
          have C1 := Lib.hid c1
          have HNE := Lib.hid hne
          clear c0 c1
          go_wp2_with fail
          refine wp_region_bw (by kernel_rfl) (by kernel_rfl) ?_
          repeat (go_big_quiet_step ((fail)))
          refine wpQuiet_nil ?_
          rintro w2 ⟨x1, y1⟩
          have b2 : Below w1.heap.size w1 w2 := y1 ▸ x1.up
          clear y1 x1 N0 N1
          have c1 := (b2.cell (World.block_lt_of_cell? w1 _ C1.out)).trans C1.out
          have B2 := Lib.hid (below_then B1.out b2)
          clear b2
          go_upto_region 9 with fail
          rw [str_append pre (Lib.itoa x.lo)]
          obtain ⟨m, hm⟩ : ∃ m, m = pre ++ Lib.itoa x.lo := ⟨_, rfl⟩
          have hml : m.length ≤ 44 * k + 30 := by rw [hm, List.length_append]; omega
          have HM := Lib.hid hm
          rw [← hm]
          have hs2 := str_size m
          clear hm
          go_wp2_with fail
          rw [str_app m 45]
          obtain ⟨m2, hm2⟩ : ∃ m2, m2 = m ++ [45] := ⟨_, rfl⟩
          have hml2 : m2.length ≤ 44 * k + 31 := by rw [hm2, List.length_append]; simp; omega
          have HM2 := Lib.hid hm2
          rw [← hm2]
          have hs3 := str_size m2
          clear hm2 c1 hne
          refine (sDec_c x.hi w2 hx.2).mono ?_
          rintro e w3 ⟨rfl, b3⟩
          go_wp2_with fail
          go_roundg (gk - 1)
          case measure => omega
          case rel =>
            refine ⟨k + 1, by omega, by go_num, ?_, below_then B2.out b3⟩
            rw [EP.out, str_append, HM2.out, HM.out]
            unfold spanTxt
            rw [if_neg HNE.out]
            simp
      · have g0 : decide ((0 : Int) < (k : Int)) = true := by simp; omega
        have g1 : (0 : Int) < (k : Int) := by omega
        have g2 : decide (0 < k) = true := by simp; omega
        have g3 : 0 < k := by omega
        have EP : Hid (accTxt (xs.take (k + 1)) = (acc ++ [44]) ++ spanTxt x) := by
          show _ = _
          rw [HT.out, acc_snoc, HTK.out, if_neg hk0, HACC.out]
        clear hk0
        go_wp2_with fail
        rw [str_app acc 44]
        obtain ⟨pre, hpre⟩ : ∃ p, p = acc ++ [44] := ⟨_, rfl⟩
        have hpl : pre.length ≤ 44 * k + 1 := by rw [hpre, List.length_append]; simp; omega
        rw [← hpre] at EP ⊢
        have hs1 := str_size pre
        clear hpre g0 g1 g2 g3
        refine (sDec_c x.lo wr hx.1).mono ?_
        rintro e w1 ⟨rfl, b1⟩
        have B1 := Lib.hid (below_then HB.out b1)
        have c0 := (b1.cell (World.block_lt_of_cell? wr _ h0)).trans h0
        have c1 := (b1.cell (World.block_lt_of_cell? wr _ h1)).trans h1
        clear b1 h0 h1
        by_cases hne : x.hi = x.lo
        · have d0 : decide (¬ x.hi = x.lo) = false := by simp [hne]
          have d1 : (x.hi != x.lo) = false := by simp [hne]
          have N0 : ∀ z : BW w1, z.w1.cell? (a.add (k * 2)) = some (.int .i64 x.lo) := fun z => z.cell c0
          have N1 : ∀ z : BW w1, z.w1.cell? ⟨(a.add (k * 2)).block, (a.add (k * 2)).off + 1, none⟩ = some (.int .i64 x.hi) := fun z => z.cell c1
          have HNE := Lib.hid hne
          clear c0 c1 hne
          go_wp2_with fail
          refine wp_region_bw (by kernel_rfl) (by kernel_rfl) ?_
          repeat (go_big_quiet_step ((fail)))
          refine wpQuiet_nil ?_
          rintro w2 ⟨x1, y1⟩
          have b2 : Below w1.heap.size w1 w2 := y1 ▸ x1.up
          clear y1 x1 N0 N1
          go_wp2_with fail
          go_roundg (gk - 1)
          case measure => omega
          case rel =>
            refine ⟨k + 1, by omega, by go_num, ?_, below_then B1.out b2⟩
            rw [EP.out, str_append]
            unfold spanTxt
            rw [if_pos HNE.out, List.append_nil]
        · have d0 : decide (¬ x.hi = x.lo) = true := by simp [hne]
          have d1 : (x.hi != x.lo) = true := by simp [hne]
          have N0 : ∀ z : BW w1, z.w1.cell? (a.add (k * 2)) = some (.int .i64 x.lo) := fun z => z.cell c0
          have N1 : ∀ z : BW w1, z.w1.cell? ⟨(a.add (k * 2)).block, (a.add (k * 2)).off + 1, none⟩ = some (.int .i64 x.hi) := fun z => z.cell c1
          have C1 := Lib.hid c1
          have HNE := Lib.hid hne
          clear c0 c1
          go_wp2_with fail
          refine wp_region_bw (by kernel_rfl) (by kernel_rfl) ?_
          repeat (go_big_quiet_step ((fail)))
          refine wpQuiet_nil ?_
          rintro w2 ⟨x1, y1⟩
          have b2 : Below w1.heap.size w1 w2 := y1 ▸ x1.up
          clear y1 x1 N0 N1
          have c1 := (b2.cell (World.block_lt_of_cell? w1 _ C1.out)).trans C1.out
          have B2 := Lib.hid (below_then B1.out b2)
          clear b2
          go_upto_region 9 with fail
          rw [str_append pre (Lib.itoa x.lo)]
          obtain ⟨m, hm⟩ : ∃ m, m = pre ++ Lib.itoa x.lo := ⟨_, rfl⟩
          have hml : m.length ≤ 44 * k + 30 := by rw [hm, List.length_append]; omega
          have HM := Lib.hid hm
          rw [← hm]
          have hs2 := str_size m
          clear hm
          go_wp2_with fail
          rw [str_app m 45]
          obtain ⟨m2, hm2⟩ : ∃ m2, m2 = m ++ [45] := ⟨_, rfl⟩
          have hml2 : m2.length ≤ 44 * k + 31 := by rw [hm2, List.length_append]; simp; omega
          have HM2 := Lib.hid hm2
          rw [← hm2]
          have hs3 := str_size m2
          clear hm2 c1 hne
          refine (sDec_c x.hi w2 hx.2).mono ?_
          rintro e w3 ⟨rfl, b3⟩
          go_wp2_with fail
          go_roundg (gk - 1)
          case measure => omega
          case rel =>
            refine ⟨k + 1, by omega, by go_num, ?_, below_then B2.out b3⟩
            rw [EP.out, str_append, HM2.out, HM.out]
            unfold spanTxt
            rw [if_neg HNE.out]
            simp
    · have hkl : k = xs.length := by omega
      subst hkl
      rw [List.take_length]
      by_cases hx0 : xs.length = 0
      · have e0 : accTxt xs = [] := by rw [List.length_eq_zero_iff.1 hx0]; rfl
        have E : Hid (setTxt xs = [110, 111]) := by show _ = _; rw [setTxt, if_pos hx0]
        have g0 := str_empty []
        rw [e0]
        clear hx0 e0
        go_wp2_with fail
        go_ret
        exact ⟨by rw [E.out]; rfl, HB.out⟩
      · have hp := acc_pos H64.out hx0
        have g0 := str_empty (accTxt xs)
        have g1 : (accTxt xs).isEmpty = false := by
          cases hq : accTxt xs with
          | nil => rw [hq] at hp; simp at hp
          | cons b l => rfl
        rw [g1] at g0
        have E : Hid (setTxt xs = accTxt xs) := by show _ = _; rw [setTxt, if_neg hx0]
        clear hx0 hp g1
        go_wp2_with fail
        go_ret
        exact ⟨by rw [E.out]; rfl, HB.out⟩

end Go.Proofs.YtfeidjjabjejiaaGreatDoor

/- Patterns as texts: plain. -/
namespace Go.Proofs.YtfeidjjabjejiaaGreatDoor
set_option linter.unusedSimpArgs false
set_option linter.unusedVariables false
set_option maxRecDepth 100000

/-- the word of a kind -/
def kw (k : Int) : List UInt8 :=
  if k = 1 then [115, 101, 116] else if k = 2 then [101, 109, 112, 116, 121] else if k = 3 then [99, 97, 116] else if k = 4 then [111, 114] else if k = 5 then [115, 116, 97, 114] else if k = 6 then [97, 110, 100] else if k = 7 then [110, 111, 116] else []
mutual
def wordsOf : Rex → List (List UInt8)
  | .mk k s ks => kw k :: ((if k = 1 then [setTxt s] else []) ++ wordsL ks)
def wordsL : List Rex → List (List UInt8)
  | [] => []
  | r :: rs => wordsOf r ++ wordsL rs
end
def rexTxt (r : Rex) : List UInt8 := Lib.join (wordsOf r) [32]
theorem wordsL_take {ks : List Rex} {j : Nat} {r : Rex} (h : ks[j]? = some r) : wordsL (ks.take (j + 1)) = wordsL (ks.take j) ++ wordsOf r := by
  induction ks generalizing j with
  | nil => simp at h
  | cons x xs ih =>
    cases j with
    | zero =>
      obtain rfl := Option.some.inj h
      simp [wordsL]
    | succ j => rw [List.take_succ_cons, List.take_succ_cons, wordsL, wordsL, ih (by simpa using h), List.append_assoc]
theorem tail_join (w : List UInt8) (ws : List (List UInt8)) : Lib.joinTail [32] (w :: ws) = 32 :: Lib.join (w :: ws) [32] := by
  rw [Lib.join_cons]
  simp [Lib.joinTail]
theorem tail_app (a b : List (List UInt8)) : Lib.joinTail [32] (a ++ b) = Lib.joinTail [32] a ++ Lib.joinTail [32] b := by simp [Lib.joinTail]
theorem tail_words (r : Rex) : Lib.joinTail [32] (wordsOf r) = 32 :: rexTxt r := by
  obtain ⟨k, s, ks⟩ := r
  unfold rexTxt
  rw [wordsOf]
  exact tail_join _ _
/-- the kids' texts -/
def kidTxts : List Rex → List UInt8
  | [] => []
  | r :: rs => 32 :: (rexTxt r ++ kidTxts rs)
theorem tail_wordsL : ∀ ks : List Rex, Lib.joinTail [32] (wordsL ks) = kidTxts ks
  | [] => rfl
  | r :: rs => by rw [wordsL, tail_app, tail_words, tail_wordsL rs, kidTxts]; simp
theorem kidTxts_take {ks : List Rex} {j : Nat} {r : Rex} (h : ks[j]? = some r) : kidTxts (ks.take (j + 1)) = kidTxts (ks.take j) ++ (32 :: rexTxt r) := by
  rw [← tail_wordsL, ← tail_wordsL, wordsL_take h, tail_app, tail_words]
theorem rexTxt_set (s : List Sp) : rexTxt (.mk 1 s []) = (kw 1 ++ [32]) ++ setTxt s := by
  unfold rexTxt
  rw [wordsOf, if_pos rfl, wordsL, List.append_nil, Lib.join_cons]
  simp [Lib.joinTail]
theorem rexTxt_kids {k : Int} (h : k ≠ 1) (s : List Sp) (ks : List Rex) : rexTxt (.mk k s ks) = kw k ++ kidTxts ks := by
  unfold rexTxt
  rw [wordsOf, if_neg h, List.nil_append, Lib.join_cons, tail_wordsL]
theorem kw_len (k : Int) : (kw k).length ≤ 5 := by
  unfold kw
  repeat' split
  all_goals decide
/-- the sets of a right tree -/
theorem ok_go {p : Option Int} : ∀ {xs : List Sp}, setOkGo p xs = true → ∀ x ∈ xs, 0 ≤ x.lo ∧ x.lo ≤ x.hi ∧ x.hi ≤ 255
  | [], _, x, h => by simp at h
  | y :: ys, h, x, hx => by
    rw [setOkGo, Bool.and_eq_true] at h
    rcases List.mem_cons.1 hx with rfl | hx
    · have h1 := h.1
      simp [spBad] at h1
      omega
    · exact ok_go h.2 x hx
theorem ok_64 {xs : List Sp} (h : setOk xs = true) : sp64 xs := fun x hx => by
  have := ok_go (show setOkGo none xs = true from h) x hx
  unfold in64
  omega

end Go.Proofs.YtfeidjjabjejiaaGreatDoor

/- Texts tell apart what they are of: plain law. -/
namespace Go.Proofs.YtfeidjjabjejiaaGreatDoor
set_option linter.unusedSimpArgs false
set_option linter.unusedVariables false
set_option maxRecDepth 100000

/-! ### words between separators -/
/-- two words without the separator, each at the end or ahead of it -/
theorem word_eq {sep : UInt8} : ∀ {w w' : List UInt8} {t t' : List UInt8}, sep ∉ w → sep ∉ w' → (t = [] ∨ ∃ u, t = sep :: u) → (t' = [] ∨ ∃ u, t' = sep :: u) → w ++ t = w' ++ t' → w = w' ∧ t = t'
  | [], [], t, t', _, _, _, _, h => ⟨rfl, by simpa using h⟩
  | [], b :: w', t, t', _, h2, h3, _, h => by
    exfalso
    rw [List.nil_append, List.cons_append] at h
    rcases h3 with rfl | ⟨u, rfl⟩
    · cases h
    · injection h with e _
      exact h2 (by simp [e])
  | a :: w, [], t, t', h1, _, _, h4, h => by
    exfalso
    rw [List.nil_append, List.cons_append] at h
    rcases h4 with rfl | ⟨u, rfl⟩
    · cases h
    · injection h with e _
      exact h1 (by simp [e])
  | a :: w, b :: w', t, t', h1, h2, h3, h4, h => by
    rw [List.cons_append, List.cons_append] at h
    injection h with e1 e2
    obtain ⟨e3, e4⟩ := word_eq (fun hm => h1 (by simp [hm])) (fun hm => h2 (by simp [hm])) h3 h4 e2
    exact ⟨by rw [e1, e3], e4⟩
theorem tail_form (sep : UInt8) (ws : List (List UInt8)) : Lib.joinTail [sep] ws = [] ∨ ∃ u, Lib.joinTail [sep] ws = sep :: u := by
  cases ws with
  | nil => exact .inl rfl
  | cons w ws => exact .inr ⟨w ++ Lib.joinTail [sep] ws, by simp [Lib.joinTail]⟩
theorem tail_eq {sep : UInt8} : ∀ {ws ws' : List (List UInt8)}, (∀ w ∈ ws, sep ∉ w) → (∀ w ∈ ws', sep ∉ w) → Lib.joinTail [sep] ws = Lib.joinTail [sep] ws' → ws = ws'
  | [], [], _, _, _ => rfl
  | [], w :: ws', _, _, h => by simp [Lib.joinTail] at h
  | w :: ws, [], _, _, h => by simp [Lib.joinTail] at h
  | w :: ws, w' :: ws', h1, h2, h => by
    have e : ∀ (x : List UInt8) (xs : List (List UInt8)), Lib.joinTail [sep] (x :: xs) = sep :: (x ++ Lib.joinTail [sep] xs) := fun x xs => by simp [Lib.joinTail]
    rw [e, e] at h
    injection h with _ h
    obtain ⟨e1, e2⟩ := word_eq (h1 w (by simp)) (h2 w' (by simp)) (tail_form sep ws) (tail_form sep ws') h
    rw [e1, tail_eq (fun x hx => h1 x (by simp [hx])) (fun x hx => h2 x (by simp [hx])) e2]
theorem join_eq {sep : UInt8} {ws ws' : List (List UInt8)} (h1 : ∀ w ∈ ws, sep ∉ w) (h2 : ∀ w ∈ ws', sep ∉ w) (hn : ws ≠ []) (hn' : ws' ≠ []) (h : Lib.join ws [sep] = Lib.join ws' [sep]) : ws = ws' := by
  cases ws with
  | nil => exact absurd rfl hn
  | cons w ws =>
    cases ws' with
    | nil => exact absurd rfl hn'
    | cons w' ws' =>
      rw [Lib.join_cons, Lib.join_cons] at h
      obtain ⟨e1, e2⟩ := word_eq (h1 w (by simp)) (h2 w' (by simp)) (tail_form sep ws) (tail_form sep ws') h
      rw [e1, tail_eq (fun x hx => h1 x (by simp [hx])) (fun x hx => h2 x (by simp [hx])) e2]

/-! ### numbers -/
def isDig (b : UInt8) : Bool := decide (48 ≤ b.toNat) && decide (b.toNat ≤ 57)
def digVal (l : List UInt8) : Nat := l.foldl (fun a b => 10 * a + (b.toNat - 48)) 0
theorem dig_snoc (l : List UInt8) (b : UInt8) : digVal (l ++ [b]) = 10 * digVal l + (b.toNat - 48) := by simp [digVal]
theorem ofNat_dig {n : Nat} (h : n < 10) : (UInt8.ofNat (48 + n)).toNat = 48 + n := by simp; omega
theorem dec_val (u : Nat) : digVal (Lib.decDigits u) = u := by
  induction u using Nat.strongRecOn with
  | ind u ih =>
    by_cases h : u < 10
    · rw [Lib.decDigits, dif_pos h]
      have := ofNat_dig h
      simp only [digVal, List.foldl_cons, List.foldl_nil, this]
      omega
    · rw [Lib.decDigits, dif_neg h, dig_snoc, ih (u / 10) (by omega), ofNat_dig (by omega)]
      omega
theorem dec_dig (u : Nat) : ∀ b ∈ Lib.decDigits u, isDig b = true := by
  induction u using Nat.strongRecOn with
  | ind u ih =>
    intro b hb
    by_cases h : u < 10
    · rw [Lib.decDigits, dif_pos h] at hb
      rw [List.mem_singleton.1 hb]
      unfold isDig
      rw [ofNat_dig h]
      simp
      omega
    · rw [Lib.decDigits, dif_neg h] at hb
      rcases List.mem_append.1 hb with hb | hb
      · exact ih (u / 10) (by omega) b hb
      · rw [List.mem_singleton.1 hb]
        unfold isDig
        rw [ofNat_dig (by omega)]
        simp
        omega
theorem dec_inj {u v : Nat} (h : Lib.decDigits u = Lib.decDigits v) : u = v := by
  have := congrArg digVal h
  rwa [dec_val, dec_val] at this
theorem itoa_nat {n : Int} (h : 0 ≤ n) : Lib.itoa n = Lib.decDigits n.toNat := by
  unfold Lib.itoa
  rw [if_neg (by omega)]
theorem not_dig {b : UInt8} {l : List UInt8} (hl : ∀ x ∈ l, isDig x = true) (hb : isDig b = false) : b ∉ l := fun h => by
  have := hl b h
  rw [hb] at this
  cases this

end Go.Proofs.YtfeidjjabjejiaaGreatDoor

/- A pattern's text tells which pattern it is of: plain law. -/
namespace Go.Proofs.YtfeidjjabjejiaaGreatDoor
set_option linter.unusedSimpArgs false
set_option linter.unusedVariables false
set_option maxRecDepth 100000

def okSp (x : Sp) : Prop := 0 ≤ x.lo ∧ 0 ≤ x.hi
theorem ok_sp {xs : List Sp} (h : setOk xs = true) : ∀ x ∈ xs, okSp x := fun x hx => by
  have := ok_go (show setOkGo none xs = true from h) x hx
  unfold okSp
  omega
theorem span_chars {x : Sp} (h : okSp x) : ∀ b ∈ spanTxt x, isDig b = true ∨ b = 45 := by
  intro b hb
  unfold spanTxt at hb
  rw [itoa_nat h.1, itoa_nat h.2] at hb
  rcases List.mem_append.1 hb with hb | hb
  · exact .inl (dec_dig _ b hb)
  · split at hb
    · simp at hb
    · rcases List.mem_cons.1 hb with rfl | hb
      · exact .inr rfl
      · exact .inl (dec_dig _ b hb)
theorem span_eq {x y : Sp} (hx : okSp x) (hy : okSp y) (h : spanTxt x = spanTxt y) : x = y := by
  unfold spanTxt at h
  rw [itoa_nat hx.1, itoa_nat hx.2, itoa_nat hy.1, itoa_nat hy.2] at h
  have f : ∀ z : Sp, (if z.hi = z.lo then [] else 45 :: Lib.decDigits z.hi.toNat) = ([] : List UInt8) ∨ ∃ u, (if z.hi = z.lo then [] else 45 :: Lib.decDigits z.hi.toNat) = 45 :: u := fun z => by
    split
    · exact .inl rfl
    · exact .inr ⟨_, rfl⟩
  obtain ⟨e1, e2⟩ := word_eq (sep := 45) (not_dig (dec_dig _) (by decide)) (not_dig (dec_dig _) (by decide)) (f x) (f y) h
  have hlo := dec_inj e1
  obtain ⟨xl, xh⟩ := x
  obtain ⟨yl, yh⟩ := y
  unfold okSp at hx hy
  simp only at hlo e2 hx hy
  have hl : xl = yl := by omega
  subst hl
  have hh : xh = yh := by
    split at e2
    · rename_i h1
      split at e2
      · rename_i h2; rw [h1, h2]
      · cases e2
    · split at e2
      · cases e2
      · injection e2 with _ e2
        have := dec_inj e2
        omega
  rw [hh]
theorem mem_tail {sep b : UInt8} : ∀ {ws : List (List UInt8)}, b ∈ Lib.joinTail [sep] ws → b = sep ∨ ∃ w ∈ ws, b ∈ w
  | [], h => by simp [Lib.joinTail] at h
  | w :: ws, h => by
    have e : Lib.joinTail [sep] (w :: ws) = sep :: (w ++ Lib.joinTail [sep] ws) := by simp [Lib.joinTail]
    rw [e] at h
    rcases List.mem_cons.1 h with h | h
    · exact .inl h
    · rcases List.mem_append.1 h with h | h
      · exact .inr ⟨w, by simp, h⟩
      · rcases mem_tail h with h | ⟨v, hv, h⟩
        · exact .inl h
        · exact .inr ⟨v, by simp [hv], h⟩
theorem mem_join {sep b : UInt8} {ws : List (List UInt8)} (h : b ∈ Lib.join ws [sep]) : b = sep ∨ ∃ w ∈ ws, b ∈ w := by
  cases ws with
  | nil => rw [Lib.join_nil] at h; cases h
  | cons w ws =>
    rw [Lib.join_cons] at h
    rcases List.mem_append.1 h with h | h
    · exact .inr ⟨w, by simp, h⟩
    · rcases mem_tail h with h | ⟨v, hv, h⟩
      · exact .inl h
      · exact .inr ⟨v, by simp [hv], h⟩
theorem acc_chars {xs : List Sp} (h : ∀ x ∈ xs, okSp x) : ∀ b ∈ accTxt xs, isDig b = true ∨ b = 45 ∨ b = 44 := by
  intro b hb
  unfold accTxt at hb
  rcases mem_join hb with e | ⟨w, hw, hb⟩
  · exact .inr (.inr e)
  · obtain ⟨x, hx, rfl⟩ := List.mem_map.1 hw
    rcases span_chars (h x hx) b hb with h1 | h1
    · exact .inl h1
    · exact .inr (.inl h1)
theorem set_no32 {xs : List Sp} (h : setOk xs = true) : (32 : UInt8) ∉ setTxt xs := by
  intro hb
  unfold setTxt at hb
  split at hb
  · revert hb; decide
  · rcases acc_chars (ok_sp h) _ hb with h1 | h1 | h1 <;> revert h1 <;> decide
theorem map_inj {xs ys : List Sp} (hx : ∀ x ∈ xs, okSp x) (hy : ∀ x ∈ ys, okSp x) (h : xs.map spanTxt = ys.map spanTxt) : xs = ys := by
  induction xs generalizing ys with
  | nil => cases ys with
    | nil => rfl
    | cons y ys => cases h
  | cons x xs ih => cases ys with
    | nil => cases h
    | cons y ys =>
      rw [List.map_cons, List.map_cons] at h
      injection h with e1 e2
      rw [span_eq (hx x (by simp)) (hy y (by simp)) e1, ih (fun z hz => hx z (by simp [hz])) (fun z hz => hy z (by simp [hz])) e2]
theorem set_eq {xs ys : List Sp} (hx : setOk xs = true) (hy : setOk ys = true) (h : setTxt xs = setTxt ys) : xs = ys := by
  have no : ∀ zs : List Sp, setOk zs = true → ([110, 111] : List UInt8) ≠ accTxt zs := fun zs hz e => by
    have h1 : (110 : UInt8) ∈ accTxt zs := by rw [← e]; simp
    rcases acc_chars (ok_sp hz) _ h1 with h1 | h1 | h1 <;> revert h1 <;> decide
  unfold setTxt at h
  split at h
  · rename_i h1
    split at h
    · rename_i h2
      rw [List.length_eq_zero_iff.1 h1, List.length_eq_zero_iff.1 h2]
    · exact absurd h (no ys hy)
  · rename_i h1
    split at h
    · exact absurd h.symm (no xs hx)
    · rename_i h2
      have n44 : ∀ zs : List Sp, setOk zs = true → ∀ w ∈ zs.map spanTxt, (44 : UInt8) ∉ w := fun zs hz w hw hb => by
        obtain ⟨x, hxx, rfl⟩ := List.mem_map.1 hw
        rcases span_chars (ok_sp hz x hxx) _ hb with h1 | h1 <;> revert h1 <;> decide
      refine map_inj (ok_sp hx) (ok_sp hy) (join_eq (n44 xs hx) (n44 ys hy) ?_ ?_ h)
      · intro e; rw [List.map_eq_nil_iff] at e; rw [e] at h1; exact h1 rfl
      · intro e; rw [List.map_eq_nil_iff] at e; rw [e] at h2; exact h2 rfl

/-! ### words of patterns -/
def kind7 (k : Int) : Prop := k = 1 ∨ k = 2 ∨ k = 3 ∨ k = 4 ∨ k = 5 ∨ k = 6 ∨ k = 7
theorem kind_of {d : Nat} {k : Int} {s : List Sp} {ks : List Rex} (h : formed d (.mk k s ks) = true) : kind7 k := by
  rcases kidsOf_cases (formed_node h).1 with ⟨e, _⟩ | ⟨e, _⟩ | ⟨e, _⟩ <;> (unfold kind7; omega)
theorem kw_no32 {k : Int} (h : kind7 k) : (32 : UInt8) ∉ kw k := by
  rcases h with rfl | rfl | rfl | rfl | rfl | rfl | rfl <;> decide
theorem kw_inj {k j : Int} (h : kind7 k) (h' : kind7 j) (e : kw k = kw j) : k = j := by
  rcases h with rfl | rfl | rfl | rfl | rfl | rfl | rfl <;> rcases h' with rfl | rfl | rfl | rfl | rfl | rfl | rfl <;> first | rfl | (exfalso; revert e; decide)
theorem words_no32 (r : Rex) : ∀ d, formed d r = true → ∀ w ∈ wordsOf r, (32 : UInt8) ∉ w := by
  refine Rex.ind (p := fun r => ∀ d, formed d r = true → ∀ w ∈ wordsOf r, (32 : UInt8) ∉ w) (fun k s ks ih => ?_) r
  intro d hd w hw
  obtain ⟨_, _, hok, _, hfk⟩ := formed_node hd
  rw [wordsOf] at hw
  rcases List.mem_cons.1 hw with rfl | hw
  · exact kw_no32 (kind_of hd)
  · rcases List.mem_append.1 hw with hw | hw
    · split at hw
      · rw [List.mem_singleton.1 hw]; exact set_no32 hok
      · simp at hw
    · have hL : ∀ l : List Rex, (∀ r ∈ l, r ∈ ks) → ∀ w ∈ wordsL l, (32 : UInt8) ∉ w := by
        intro l
        induction l with
        | nil => intro _ w hw; simp [wordsL] at hw
        | cons x l ihl =>
          intro hl w hw
          rw [wordsL] at hw
          rcases List.mem_append.1 hw with hw | hw
          · exact ih x (hl x (by simp)) (d - 1) (hfk x (hl x (by simp))) w hw
          · exact ihl (fun r hr => hl r (by simp [hr])) w hw
      exact hL ks (fun r hr => hr) w hw
def ReadsBack (r : Rex) : Prop := ∀ (d d' : Nat) (r' : Rex) (t t' : List (List UInt8)), formed d r = true → formed d' r' = true → wordsOf r ++ t = wordsOf r' ++ t' → r = r' ∧ t = t'
theorem wordsL_eq : ∀ (ks ks' : List Rex) (d d' : Nat) (t t' : List (List UInt8)), (∀ r ∈ ks, ReadsBack r) → (∀ r ∈ ks, formed d r = true) → (∀ r ∈ ks', formed d' r = true) → ks.length = ks'.length → wordsL ks ++ t = wordsL ks' ++ t' → ks = ks' ∧ t = t'
  | [], [], _, _, t, t', _, _, _, _, h => ⟨rfl, by simpa [wordsL] using h⟩
  | [], _ :: _, _, _, _, _, _, _, _, hl, _ => by simp at hl
  | _ :: _, [], _, _, _, _, _, _, _, hl, _ => by simp at hl
  | r :: ks, r' :: ks', d, d', t, t', hr, hf, hf', hl, h => by
    rw [wordsL, wordsL, List.append_assoc, List.append_assoc] at h
    obtain ⟨e1, e2⟩ := hr r (by simp) d d' r' _ _ (hf r (by simp)) (hf' r' (by simp)) h
    obtain ⟨e3, e4⟩ := wordsL_eq ks ks' d d' t t' (fun x hx => hr x (by simp [hx])) (fun x hx => hf x (by simp [hx])) (fun x hx => hf' x (by simp [hx])) (by simpa using hl) e2
    exact ⟨by rw [e1, e3], e4⟩
theorem reads_back (r : Rex) : ReadsBack r := by
  refine Rex.ind (p := ReadsBack) (fun k s ks ih => ?_) r
  intro d d' r' t t' hd hd' h
  obtain ⟨k', s', ks'⟩ := r'
  obtain ⟨hk, hs, hok, _, hfk⟩ := formed_node hd
  obtain ⟨hk', hs', hok', _, hfk'⟩ := formed_node hd'
  rw [wordsOf, wordsOf, List.cons_append, List.cons_append] at h
  injection h with e1 e2
  have ek := kw_inj (kind_of hd) (kind_of hd') e1
  subst ek
  have hlen : ks.length = ks'.length := by omega
  by_cases h1 : k = 1
  · rw [if_pos h1, if_pos h1, List.append_assoc, List.append_assoc, List.singleton_append, List.singleton_append] at e2
    injection e2 with e3 e4
    have es := set_eq hok hok' e3
    obtain ⟨e5, e6⟩ := wordsL_eq ks ks' (d - 1) (d' - 1) t t' ih hfk hfk' hlen e4
    exact ⟨by rw [es, e5], e6⟩
  · rw [if_neg h1, if_neg h1, List.nil_append, List.nil_append] at e2
    obtain ⟨e5, e6⟩ := wordsL_eq ks ks' (d - 1) (d' - 1) t t' ih hfk hfk' hlen e2
    have es : s = s' := by rw [hs.resolve_left h1, hs'.resolve_left h1]
    exact ⟨by rw [es, e5], e6⟩
theorem txt_inj {a b : Rex} {d d' : Nat} (ha : formed d a = true) (hb : formed d' b = true) (h : rexTxt a = rexTxt b) : a = b := by
  have hne : ∀ r : Rex, wordsOf r ≠ [] := fun r => by
    obtain ⟨k, s, ks⟩ := r
    rw [wordsOf]
    simp
  have e := join_eq (words_no32 a d ha) (words_no32 b d' hb) (hne a) (hne b) h
  exact (reads_back a d d' b [] [] ha hb (by rw [e])).1

end Go.Proofs.YtfeidjjabjejiaaGreatDoor
