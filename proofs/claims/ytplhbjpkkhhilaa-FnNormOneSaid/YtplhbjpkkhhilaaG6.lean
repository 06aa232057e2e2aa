/- Texts joined for the claims: RexP T2 Cp C0 N1. -/
import Derived.Test.YtplhbjpkkhhilaaG5
import Derived.Test.YtplhbjpkkhhilaaG2
import Derived.Test.YtplhbjpkkhhilaaG3
import Derived.Test.YtplhbjpkkhhilaaG4
import Derived.Deep.RegionHeld3
import Derived.Deep.DeepCutAuto
/- Trees in memory, whose blocks are known to be among some. -/
namespace Go.Proofs.Ytplhbjpkkhhilaa
set_option linter.unusedSimpArgs false
set_option linter.unusedVariables false
open Go.RowKit

inductive RexP (w : World) (p : Nat → Prop) : Rex → Value → Value → Value → Prop
  | mk (k : Int) (s : List Sp) (ks : List Rex) (A K : Option Addr) (c ck : Nat) (V0 V1 V2 : Nat → Value) (hs : Sps w 0 A c s) (ps : ∀ a, A = some a → s ≠ [] → p a.block) (hn : ks.length ≤ ck) (hl : ks.length ≤ maxN)
      (hc : ∀ i, i < ks.length → KCell w 0 K i (V0 i) (V1 i) (V2 i)) (pk : ∀ a, K = some a → ks ≠ [] → p a.block) (hr : ∀ i r, ks[i]? = some r → RexP w p r (V0 i) (V1 i) (V2 i)) : RexP w p (.mk k s ks) (.int .i64 k) (.slice A s.length c) (.slice K ks.length ck)

structure SpsP (w : World) (p : Nat → Prop) (A : Option Addr) (c : Nat) (s : List Sp) : Prop where
  sps : Sps w 0 A c s
  ok : ∀ a, A = some a → s ≠ [] → p a.block
structure KidsP (w : World) (p : Nat → Prop) (K : Option Addr) (ck : Nat) (ks : List Rex) : Prop where
  ex : ∃ V0 V1 V2 : Nat → Value, (∀ i, i < ks.length → KCell w 0 K i (V0 i) (V1 i) (V2 i)) ∧ ∀ i r, ks[i]? = some r → RexP w p r (V0 i) (V1 i) (V2 i)
  cap : ks.length ≤ ck
  len : ks.length ≤ maxN
  ok : ∀ a, K = some a → ks ≠ [] → p a.block
theorem RexP.parts {w : World} {p : Nat → Prop} {r : Rex} {v0 v1 v2 : Value} (h : RexP w p r v0 v1 v2) :
    ∃ A c K ck, v0 = .int .i64 r.kind ∧ v1 = .slice A r.set.length c ∧ v2 = .slice K r.kids.length ck ∧ SpsP w p A c r.set ∧ KidsP w p K ck r.kids := by
  cases h with
  | mk k s ks A K c ck V0 V1 V2 hs ps hn hl hc pk hr => exact ⟨A, c, K, ck, rfl, rfl, rfl, ⟨hs, ps⟩, ⟨V0, V1, V2, hc, hr⟩, hn, hl, pk⟩
theorem RexP.of {w : World} {p : Nat → Prop} {k : Int} {s : List Sp} {ks : List Rex} {A K : Option Addr} {c ck : Nat} (hs : SpsP w p A c s) (hk : KidsP w p K ck ks) : RexP w p (.mk k s ks) (.int .i64 k) (.slice A s.length c) (.slice K ks.length ck) := by
  obtain ⟨⟨V0, V1, V2, hc, hr⟩, h1, h2, h3⟩ := hk
  exact .mk k s ks A K c ck V0 V1 V2 hs.sps hs.ok h1 h2 hc h3 hr
theorem RexP.rexv {w : World} {p : Nat → Prop} {r : Rex} {v0 v1 v2 : Value} (h : RexP w p r v0 v1 v2) : RexV w 0 r v0 v1 v2 := by
  induction h with
  | mk k s ks A K c ck V0 V1 V2 hs ps hn hl hc pk hr ih => exact .mk k s ks A K c ck V0 V1 V2 hs hn hl hc ih
theorem KidsP.kids {w : World} {p : Nat → Prop} {K : Option Addr} {ck : Nat} {ks : List Rex} (h : KidsP w p K ck ks) : Kids w 0 K ck ks := by
  obtain ⟨⟨V0, V1, V2, hc, hr⟩, h1, h2, h3⟩ := h
  exact ⟨⟨V0, V1, V2, hc, fun i r e => (hr i r e).rexv⟩, h1, h2⟩
theorem Sps.blk {w : World} {lo : Nat} {A : Option Addr} {c : Nat} {s : List Sp} (h : Sps w lo A c s) : ∀ a, A = some a → s ≠ [] → a.block < w.heap.size := by
  intro a ha hs
  have hl : 0 < s.length := List.length_pos_iff.2 hs
  obtain ⟨a', x, e, _, _, c0, _⟩ := h.at_ 0 hl
  rw [ha] at e
  injection e with e
  subst e
  have := World.block_lt_of_cell? w _ c0
  rwa [add_block'] at this
theorem Kids.blk {w : World} {lo : Nat} {K : Option Addr} {ck : Nat} {ks : List Rex} (h : Kids w lo K ck ks) : ∀ a, K = some a → ks ≠ [] → a.block < w.heap.size := by
  intro a ha hs
  have hl : 0 < ks.length := List.length_pos_iff.2 hs
  obtain ⟨a', x, _, _, e, _, _, _, c0, _⟩ := h.at_ 0 hl
  rw [ha] at e
  injection e with e
  subst e
  have := World.block_lt_of_cell? w _ c0
  rwa [add_block'] at this
theorem RexV.rexp {w : World} {lo : Nat} {r : Rex} {v0 v1 v2 : Value} (h : RexV w lo r v0 v1 v2) : RexP w (fun b => b < w.heap.size) r v0 v1 v2 := by
  induction h with
  | mk k s ks A K c ck V0 V1 V2 hs hn hl hc hr ih =>
    have hk : Kids w lo K ck ks := ⟨⟨V0, V1, V2, hc, hr⟩, hn, hl⟩
    exact .mk k s ks A K c ck V0 V1 V2 (hs.lower (Nat.zero_le _)) hs.blk hn hl (fun i hi => (hc i hi).lower (Nat.zero_le _)) hk.blk ih
theorem Sps.keepAt {w w' : World} {A : Option Addr} {c : Nat} {s : List Sp} (h : Sps w 0 A c s) (hk : ∀ a, A = some a → s ≠ [] → w'.heap[a.block]? = w.heap[a.block]?) : Sps w' 0 A c s := by
  refine ⟨?_, h.cap, h.len⟩
  rcases h.row with h0 | ⟨a, e, hl, hc⟩
  · exact .inl h0
  · by_cases hs : s = []
    · left; rw [hs]; rfl
    · exact .inr ⟨a, e, hl, hc.keep fun _ => hk a e hs⟩
theorem KCell.keepAt {w w' : World} {K : Option Addr} {i : Nat} {u0 u1 u2 : Value} (h : KCell w 0 K i u0 u1 u2) (hk : ∀ a, K = some a → w'.heap[a.block]? = w.heap[a.block]?) : KCell w' 0 K i u0 u1 u2 := by
  obtain ⟨a, e, hl, h0, h1, h2⟩ := h.ex
  have hh := hk a e
  refine ⟨a, e, hl, ?_, ?_, ?_⟩
  · rw [World.cell?_of_block (w := w) (by rw [add_block']; exact hh)]; exact h0
  · rw [World.cell?_of_block (w := w) (by show w'.heap[(a.add (i * 3)).block]? = _; rw [add_block']; exact hh)]; exact h1
  · rw [World.cell?_of_block (w := w) (by show w'.heap[(a.add (i * 3)).block]? = _; rw [add_block']; exact hh)]; exact h2
theorem RexP.keep {w w' : World} {p : Nat → Prop} {r : Rex} {v0 v1 v2 : Value} (h : RexP w p r v0 v1 v2) (hk : ∀ b, p b → b < w.heap.size → w'.heap[b]? = w.heap[b]?) : RexP w' p r v0 v1 v2 := by
  induction h with
  | mk k s ks A K c ck V0 V1 V2 hs ps hn hl hc pk hr ih =>
    have hkk : Kids w 0 K ck ks := ⟨⟨V0, V1, V2, hc, fun i r e => (hr i r e).rexv⟩, hn, hl⟩
    refine .mk k s ks A K c ck V0 V1 V2 (hs.keepAt fun a e h => hk _ (ps a e h) (hs.blk a e h)) ps hn hl (fun i hi => (hc i hi).keepAt fun a e => ?_) pk ih
    have hne : ks ≠ [] := by rintro rfl; simp at hi
    exact hk _ (pk a e hne) (hkk.blk a e hne)
theorem RexP.mono {w : World} {p p' : Nat → Prop} {r : Rex} {v0 v1 v2 : Value} (h : RexP w p r v0 v1 v2) (hp : ∀ b, p b → p' b) : RexP w p' r v0 v1 v2 := by
  induction h with
  | mk k s ks A K c ck V0 V1 V2 hs ps hn hl hc pk hr ih => exact .mk k s ks A K c ck V0 V1 V2 hs (fun a e h => hp _ (ps a e h)) hn hl hc (fun a e h => hp _ (pk a e h)) ih
theorem RexP.under {w w' : World} {p : Nat → Prop} {r : Rex} {v0 v1 v2 : Value} (h : RexP w p r v0 v1 v2) (hb : Below w.heap.size w w') : RexP w' p r v0 v1 v2 := h.keep fun b _ hlt => hb.block b hlt
theorem RexP.lt {w : World} {p : Nat → Prop} {r : Rex} {v0 v1 v2 : Value} (h : RexP w p r v0 v1 v2) : RexP w (fun b => p b ∧ b < w.heap.size) r v0 v1 v2 := by
  induction h with
  | mk k s ks A K c ck V0 V1 V2 hs ps hn hl hc pk hr ih =>
    have hkk : Kids w 0 K ck ks := ⟨⟨V0, V1, V2, hc, fun i r e => (hr i r e).rexv⟩, hn, hl⟩
    exact .mk k s ks A K c ck V0 V1 V2 hs (fun a e h => ⟨ps a e h, hs.blk a e h⟩) hn hl hc (fun a e h => ⟨pk a e h, hkk.blk a e h⟩) ih
theorem RexV.rexp_lo {w : World} {lo : Nat} {r : Rex} {v0 v1 v2 : Value} (h : RexV w lo r v0 v1 v2) : RexP w (fun b => lo ≤ b) r v0 v1 v2 := by
  induction h with
  | mk k s ks A K c ck V0 V1 V2 hs hn hl hc hr ih =>
    refine .mk k s ks A K c ck V0 V1 V2 (hs.lower (Nat.zero_le _)) (fun a e hne => ?_) hn hl (fun i hi => (hc i hi).lower (Nat.zero_le _)) (fun a e hne => ?_) ih
    · rcases hs.row with h0 | ⟨a', e', hl', _⟩
      · have := congrArg List.length h0
        rw [spcs_length, List.length_nil] at this
        exact absurd (List.length_eq_zero_iff.1 (by omega)) hne
      · rw [e] at e'; injection e' with e'; subst e'; exact hl'
    · obtain ⟨a', e', hl', _⟩ := (hc 0 (List.length_pos_iff.2 hne)).ex
      rw [e] at e'; injection e' with e'; subst e'; exact hl'
theorem OwnT.rexp {w : World} {fp : List Nat} {r : Rex} {v1 v2 : Value} (h : OwnT w fp r v1 v2) {lo : Nat} (hf : ∀ b, b ∈ fp → lo ≤ b) : RexP w (fun b => lo ≤ b) r (.int .i64 r.kind) v1 v2 := (h.rexv lo hf).rexp_lo
theorem KidsP.at_ {w : World} {p : Nat → Prop} {K : Option Addr} {ck : Nat} {ks : List Rex} (h : KidsP w p K ck ks) (i : Nat) (hi : i < ks.length) :
    ∃ a r v1 v2, K = some a ∧ Hid (ks[i]? = some r) ∧ Hid (ks.drop i = r :: ks.drop (i + 1)) ∧ Hid (RexP w p r (.int .i64 r.kind) v1 v2) ∧
      w.cell? (a.add (i * 3)) = some (.int .i64 r.kind) ∧ w.cell? ⟨(a.add (i * 3)).block, (a.add (i * 3)).off + 1, none⟩ = some v1 ∧ w.cell? ⟨(a.add (i * 3)).block, (a.add (i * 3)).off + 2, none⟩ = some v2 := by
  obtain ⟨⟨V0, V1, V2, hc, hr⟩, h1, h2, h3⟩ := h
  obtain ⟨a, e, _, c0, c1, c2⟩ := (hc i hi).ex
  have hg : ks[i]? = some ks[i] := by simp [hi]
  have hv := hr i _ hg
  have e0 : V0 i = .int .i64 ks[i].kind := by
    obtain ⟨_, _, _, _, e, _⟩ := hv.parts
    exact e
  rw [e0] at hv c0
  exact ⟨a, ks[i], V1 i, V2 i, e, hg, List.drop_eq_getElem_cons hi, hv, c0, c1, c2⟩
theorem KidsP.one {w : World} {p : Nat → Prop} {K : Option Addr} {ck : Nat} {x : Rex} (h : KidsP w p K ck [x]) :
    ∃ a A c K' ck', K = some a ∧ RexP w p x (.int .i64 x.kind) (.slice A x.set.length c) (.slice K' x.kids.length ck') ∧ w.cell? a = some (.int .i64 x.kind) ∧ w.cell? ⟨a.block, a.off + 1, none⟩ = some (.slice A x.set.length c) ∧ w.cell? ⟨a.block, a.off + 2, none⟩ = some (.slice K' x.kids.length ck') := by
  obtain ⟨a, r, v1, v2, e, HX, _, HV, c0, c1, c2⟩ := h.at_ 0 (by simp)
  obtain rfl : x = r := by simpa using HX.out
  rw [show a.add (0 * 3) = a by simp [Addr.add]] at c0 c1 c2
  obtain ⟨A, c, K', ck', _, rfl, rfl, _⟩ := HV.out.parts
  exact ⟨a, A, c, K', ck', e, HV.out, c0, c1, c2⟩
theorem KidsP.two {w : World} {p : Nat → Prop} {K : Option Addr} {ck : Nat} {x y : Rex} (h : KidsP w p K ck [x, y]) :
    ∃ a A c K' ck' B d L' dk', K = some a ∧ RexP w p x (.int .i64 x.kind) (.slice A x.set.length c) (.slice K' x.kids.length ck') ∧ w.cell? a = some (.int .i64 x.kind) ∧ w.cell? ⟨a.block, a.off + 1, none⟩ = some (.slice A x.set.length c) ∧ w.cell? ⟨a.block, a.off + 2, none⟩ = some (.slice K' x.kids.length ck') ∧
      RexP w p y (.int .i64 y.kind) (.slice B y.set.length d) (.slice L' y.kids.length dk') ∧ w.cell? ⟨a.block, a.off + 3, none⟩ = some (.int .i64 y.kind) ∧ w.cell? ⟨a.block, a.off + 3 + 1, none⟩ = some (.slice B y.set.length d) ∧ w.cell? ⟨a.block, a.off + 3 + 2, none⟩ = some (.slice L' y.kids.length dk') := by
  obtain ⟨a, r, v1, v2, e, HX, _, HV, c0, c1, c2⟩ := h.at_ 0 (by simp)
  obtain ⟨a', r', u1, u2, e', HX', _, HV', c0', c1', c2'⟩ := h.at_ 1 (by simp)
  obtain rfl : x = r := by simpa using HX.out
  obtain rfl : y = r' := by simpa using HX'.out
  obtain rfl : a = a' := by rw [e] at e'; exact Option.some.inj e'
  rw [show a.add (0 * 3) = a by simp [Addr.add]] at c0 c1 c2
  rw [show a.add (1 * 3) = ⟨a.block, a.off + 3, none⟩ by simp [Addr.add]] at c0' c1' c2'
  obtain ⟨A, c, K', ck', _, rfl, rfl, _⟩ := HV.out.parts
  obtain ⟨B, d, L', dk', _, rfl, rfl, _⟩ := HV'.out.parts
  exact ⟨a, A, c, K', ck', B, d, L', dk', e, HV.out, c0, c1, c2, HV'.out, c0', c1', c2'⟩
theorem RexP.leaf {w : World} {p : Nat → Prop} (k : Int) : RexP w p (.mk k [] []) (.int .i64 k) nilS nilS :=
  RexP.of (A := none) (K := none) (c := 0) (ck := 0) ⟨⟨.inl rfl, Nat.le_refl _, by simp⟩, fun a e => by cases e⟩ ⟨⟨fun _ => undef, fun _ => undef, fun _ => undef, fun i h => by simp at h, fun i r h => by simp at h⟩, Nat.le_refl _, by simp, fun a e => by cases e⟩
/-- a row of one, of two, just made -/
theorem KidsP.mk1 {w : World} {p : Nat → Prop} {g : Nat} {x : Rex} {u1 u2 : Value} (hb : Blk w g #[.int .i64 x.kind, u1, u2] TRx) (hp : p g) (h : RexP w p x (.int .i64 x.kind) u1 u2) : KidsP w p (some ⟨g, 0, none⟩) 1 [x] := by
  refine ⟨⟨fun _ => .int .i64 x.kind, fun _ => u1, fun _ => u2, fun i hi => ?_, fun i r hi => ?_⟩, Nat.le_refl _, by simp [maxN], fun a e _ => by injection e with e; subst e; exact hp⟩
  · obtain rfl : i = 0 := by simpa using hi
    exact ⟨⟨g, 0, none⟩, rfl, Nat.zero_le _, (hb.cell 0).trans rfl, (hb.cell 1).trans rfl, (hb.cell 2).trans rfl⟩
  · obtain rfl : i = 0 := by have := (List.getElem?_eq_some_iff.1 hi).1; simpa using this
    simp at hi
    subst hi
    exact h
theorem KidsP.mk2 {w : World} {p : Nat → Prop} {g : Nat} {x y : Rex} {u1 u2 v1 v2 : Value} (hb : Blk w g #[.int .i64 x.kind, u1, u2, .int .i64 y.kind, v1, v2] TRx) (hp : p g) (h : RexP w p x (.int .i64 x.kind) u1 u2) (h' : RexP w p y (.int .i64 y.kind) v1 v2) : KidsP w p (some ⟨g, 0, none⟩) 2 [x, y] := by
  refine ⟨⟨fun i => .int .i64 (if i = 0 then x.kind else y.kind), fun i => if i = 0 then u1 else v1, fun i => if i = 0 then u2 else v2, fun i hi => ?_, fun i r hi => ?_⟩, Nat.le_refl _, by simp [maxN], fun a e _ => by injection e with e; subst e; exact hp⟩
  · match i, (show i < 2 from hi) with
    | 0, _ => exact ⟨⟨g, 0, none⟩, rfl, Nat.zero_le _, (hb.cell 0).trans rfl, (hb.cell 1).trans rfl, (hb.cell 2).trans rfl⟩
    | 1, _ => exact ⟨⟨g, 0, none⟩, rfl, Nat.zero_le _, (hb.cell 3).trans rfl, (hb.cell 4).trans rfl, (hb.cell 5).trans rfl⟩
  · match i, (show i < 2 from (List.getElem?_eq_some_iff.1 hi).1) with
    | 0, _ => simp at hi; subst hi; exact h
    | 1, _ => simp at hi; subst hi; exact h'

/-- what a function that gives a tree leaves -/
def RexPost (p : Nat → Prop) (t : Rex) (w : World) (e : Ending) (w' : World) : Prop :=
  ∃ A c K ck, e = .returned (.agg #[.int .i64 t.kind, .slice A t.set.length c, .slice K t.kids.length ck]) ∧ RexP w' (fun b => p b ∨ w.heap.size ≤ b) t (.int .i64 t.kind) (.slice A t.set.length c) (.slice K t.kids.length ck) ∧ Below w.heap.size w w'
theorem rex_fin {p : Nat → Prop} {t : Rex} {w wr w5 : World} {R : Nat} {A K : Option Addr} {n m c ck : Nat} (hn : n = t.set.length) (hm : m = t.kids.length) (hp : ∀ b, p b → b < w.heap.size) (hv : RexP wr (fun b => b ≠ R ∧ (p b ∨ w.heap.size ≤ b)) t (.int .i64 t.kind) (.slice A n c) (.slice K m ck)) (hb : Below w.heap.size w wr) (hg : wr.grownBy w5 (some R)) (hR : w.heap.size ≤ R) :
    RexPost p t w (.returned (.agg #[.int .i64 t.kind, .slice A n c, .slice K m ck])) w5 := by
  subst hn hm
  refine ⟨A, c, K, ck, rfl, ?_, hb.grown hg hb.size fun q hq => by injection hq with hq; omega⟩
  exact (hv.keep fun b ⟨hne, _⟩ hlt => hg.block b hlt fun e => by injection e with e; exact hne e).mono fun b h => h.2

end Go.Proofs.Ytplhbjpkkhhilaa

/- Copies of the laws' trees: toRex, toRexS. -/
namespace Go.Proofs.Ytplhbjpkkhhilaa
set_option linter.unusedSimpArgs false
set_option linter.unusedVariables false
open Go.RowKit

theorem infoRx : (Try.prog.info? TRx).map (fun i => (i.zero, i.size, i.bytes)) = some (some (.agg #[.int .i64 0, nilS, nilS]), 3, 56) := by kernel_rfl
theorem add0 (g j : Nat) : (⟨g, 0, none⟩ : Addr).add j = ⟨g, j, none⟩ := by unfold Addr.add; split <;> simp_all
theorem size_kid {ks : List Rex} {r : Rex} (h : r ∈ ks) : r.size ≤ sizeL ks := by
  induction ks with
  | nil => cases h
  | cons x xs ih =>
    rw [sizeL]
    rcases List.mem_cons.1 h with rfl | h
    · omega
    · have := ih h; omega

theorem sizeRx : (Try.prog.info? TRx).map (·.size) = some 3 := by kernel_rfl
theorem sizeRx' (a b c : Value) : (Try.prog.info? TRx).map (·.size) = some [a, b, c].length := sizeRx
theorem RexV.one {w : World} {lo : Nat} {r : Rex} {v0 v1 v2 : Value} (h : RexV w lo r v0 v1 v2) : ∀ u ∈ [v0, v1, v2], u.oneCell' = true := by
  obtain ⟨A, c, K, ck, rfl, rfl, rfl, _⟩ := h.parts
  intro u hu
  simp at hu
  rcases hu with rfl | rfl | rfl <;> rfl
theorem splice3 (l : List Value) (a b c : Value) (k : Nat) (h : k * 3 + 2 < l.length) :
    (l.take (k * 3) ++ [a, b, c] ++ l.drop (k * 3 + 3))[k * 3]? = some a ∧ (l.take (k * 3) ++ [a, b, c] ++ l.drop (k * 3 + 3))[k * 3 + 1]? = some b ∧ (l.take (k * 3) ++ [a, b, c] ++ l.drop (k * 3 + 3))[k * 3 + 2]? = some c ∧
      (∀ i, i < k * 3 → (l.take (k * 3) ++ [a, b, c] ++ l.drop (k * 3 + 3))[i]? = l[i]?) ∧ (l.take (k * 3) ++ [a, b, c] ++ l.drop (k * 3 + 3)).length = l.length := by
  have e : (l.take (k * 3)).length = k * 3 := by rw [List.length_take]; omega
  refine ⟨?_, ?_, ?_, fun i hi => ?_, ?_⟩
  · rw [List.append_assoc, List.getElem?_append_right (by omega), e]; simp
  · rw [List.append_assoc, List.getElem?_append_right (by omega), e, show k * 3 + 1 - k * 3 = 1 by omega]; simp
  · rw [List.append_assoc, List.getElem?_append_right (by omega), e, show k * 3 + 2 - k * 3 = 2 by omega]; simp
  · rw [List.append_assoc, List.getElem?_append_left (by omega), List.getElem?_take, if_pos hi]
  · simp only [List.length_append, e, List.length_drop, List.length_cons, List.length_nil]; omega

/-- a row that is being filled with trees -/
structure KPart (w : World) (g lo cap : Nat) (cur : Array Value) (ks : List Rex) (k : Nat) (L : List KInfo) : Prop where
  blk : Blk w g cur TRx
  size : cur.size = cap * 3
  capn : ks.length ≤ cap
  capm : cap ≤ maxLen
  len : L.length = k
  le : k ≤ ks.length
  cells : cur.toList.take (k * 3) = kcells (ks.take k) L
  hr : ∀ (i : Nat) (r : Rex) (x : KInfo), ks[i]? = some r → L[i]? = some x → OwnT w x.fp r x.v1 x.v2
  nd : (g :: fps L).Nodup
  lo : ∀ b, b ∈ g :: fps L → lo ≤ b
theorem KPart.lt {w : World} {g lo cap : Nat} {cur : Array Value} {ks : List Rex} {k : Nat} {L : List KInfo} (h : KPart w g lo cap cur ks k L) : ∀ b, b ∈ g :: fps L → b < w.heap.size := by
  intro b hb
  rcases List.mem_cons.1 hb with rfl | hb
  · exact h.blk.lt
  · obtain ⟨i, x, hx, hb⟩ := mem_fps.1 hb
    have hi := (List.getElem?_eq_some_iff.1 hx).1
    have hl := h.len
    have hle := h.le
    exact (h.hr i (ks[i]'(by omega)) x (List.getElem?_eq_getElem _) hx).lt b hb
theorem splice_take (l : List Value) (a b c : Value) (k : Nat) (h : k * 3 + 2 < l.length) : (l.take (k * 3) ++ [a, b, c] ++ l.drop (k * 3 + 3)).take ((k + 1) * 3) = l.take (k * 3) ++ [a, b, c] := by
  have e : (l.take (k * 3) ++ [a, b, c]).length = (k + 1) * 3 := by simp only [List.length_append, List.length_take, List.length_cons, List.length_nil]; omega
  rw [List.take_append_of_le_length (by omega), List.take_of_length_le (by omega)]
theorem KPart.snoc {w w2 w5 : World} {g lo cap : Nat} {cur : Array Value} {ks : List Rex} {k : Nat} {L : List KInfo} (h : KPart w g lo cap cur ks k L) {r : Rex} (hk : ks[k]? = some r) (b2 : Below w.heap.size w w2) {fp : List Nat} {u1 u2 : Value}
    (ho : OwnT w2 fp r u1 u2) (hf : ∀ b, b ∈ fp → w.heap.size ≤ b) (nd : fp.Nodup) (hX : Blk w5 g (cur.toList.take (k * 3) ++ [.int .i64 r.kind, u1, u2] ++ cur.toList.drop (k * 3 + 3)).toArray TRx) (hg : w2.grownBy w5 (some g)) (hlo : lo ≤ w.heap.size) :
    KPart w5 g lo cap (cur.toList.take (k * 3) ++ [.int .i64 r.kind, u1, u2] ++ cur.toList.drop (k * 3 + 3)).toArray ks (k + 1) (L ++ [⟨fp, u1, u2⟩]) := by
  have hklt := (List.getElem?_eq_some_iff.1 hk).1
  have hsz := h.size
  have hcapn := h.capn
  have hlen := h.len
  have k0 : k * 3 + 2 < cur.toList.length := by rw [Array.length_toList]; omega
  obtain ⟨_, _, _, _, s4⟩ := splice3 cur.toList (.int .i64 r.kind) u1 u2 k k0
  have hglt : g < w.heap.size := h.blk.lt
  have stay : ∀ b, b < w2.heap.size → b ≠ g → w5.heap[b]? = w2.heap[b]? := fun b hb hne => hg.block b hb fun e => by injection e with e; exact hne e
  refine ⟨hX, by rw [List.size_toArray, s4, Array.length_toList]; exact hsz, h.capn, h.capm, by simp [hlen], hklt, ?_, ?_, ?_, ?_⟩
  · show List.take ((k + 1) * 3) _ = _
    rw [splice_take _ _ _ _ _ k0, h.cells, List.take_add_one, hk]
    exact (kcells_append _ _ _ ⟨fp, u1, u2⟩ (by simp [hlen]; omega)).symm
  · intro i r' x hi hx
    by_cases e : i < L.length
    · rw [List.getElem?_append_left e] at hx
      have hT := h.hr i r' x hi hx
      refine (hT.under b2).stay fun b hb => stay b (Nat.lt_of_lt_of_le (hT.lt b hb) b2.size) fun e => ?_
      have := List.nodup_cons.1 h.nd
      exact this.1 (e ▸ mem_fps.2 ⟨i, x, hx, hb⟩)
    · have e2 : i = L.length := by
        have := (List.getElem?_eq_some_iff.1 hx).1
        simp at this
        omega
      subst e2
      rw [hlen, hk] at hi
      obtain rfl := Option.some.inj hi
      simp at hx
      subst hx
      exact ho.stay fun b hb => stay b (ho.lt b hb) fun e => by have := hf b hb; omega
  · have hn : (fps (L ++ [⟨fp, u1, u2⟩])) = fps L ++ fp := by rw [fps_append]; simp [fps]
    rw [hn, ← List.cons_append]
    refine List.nodup_append.2 ⟨h.nd, nd, fun a ha b hb e => ?_⟩
    have h1 := h.lt a ha
    have h2 := hf b hb
    omega
  · have hn : (fps (L ++ [⟨fp, u1, u2⟩])) = fps L ++ fp := by rw [fps_append]; simp [fps]
    rw [hn, ← List.cons_append]
    intro b hb
    rcases List.mem_append.1 hb with hb | hb
    · exact h.lo b hb
    · exact Nat.le_trans hlo (hf b hb)
theorem KPart.done {w : World} {g lo cap : Nat} {cur : Array Value} {ks : List Rex} {k : Nat} {L : List KInfo} (h : KPart w g lo cap cur ks k L) (hk : k = ks.length) :
    OwnK w (g :: fps L) ks (.slice (some ⟨g, 0, none⟩) ks.length cap) L := by
  subst hk
  obtain ⟨hb, hs, hn, hm, hl, _, hc, hr, nd, _⟩ := h
  rw [List.take_length] at hc
  exact ⟨hl.symm, ⟨kcells_length _ _ hl.symm, .inr ⟨g, cap, cur, rfl, Nat.zero_le _, hb.eq, hn, hm, hs, hc⟩⟩, by unfold maxLen at hm; unfold maxN; omega, hr, rfl, nd⟩
theorem KPart.first {w : World} {g lo cap : Nat} {cur : Array Value} {ks : List Rex} (hb : Blk w g cur TRx) (hs : cur.size = cap * 3) (hn : ks.length ≤ cap) (hm : cap ≤ maxLen) (hl : lo ≤ g) : KPart w g lo cap cur ks 0 [] :=
  ⟨hb, hs, hn, hm, rfl, Nat.zero_le _, by simp [kcells], fun i r x _ h => by simp at h, by simp [fps], fun b hb => by simp [fps] at hb; omega⟩

end Go.Proofs.Ytplhbjpkkhhilaa

/- copied, at trees and at lists of spans: the same cells in new memory. -/
namespace Go.Proofs.Ytplhbjpkkhhilaa
set_option linter.unusedSimpArgs false
set_option linter.unusedVariables false
open Go.RowKit

abbrev TSS : Nat := 27
theorem infoSS : (Try.prog.info? TSS).map (fun i => (i.zero, i.size, i.bytes)) = some (some nilS, 1, 24) := by kernel_rfl
theorem sizeSS : (Try.prog.info? TSS).map (·.size) = some 1 := by kernel_rfl

set_option maxHeartbeats 1000000 in
theorem copiedRex_c (A : Option Addr) (c n : Nat) (cs : List Value) (w : World) {lo : Nat} (h : Row w lo A cs) (hn : cs.length = n * 3) (h1 : ∀ u ∈ cs, u.oneCell' = true) (hx : n ≤ 1073741824) :
    Calls Try.prog 84 #[.slice A n c] w fun e w' => ∃ v, e = .returned v ∧ w'.ownsRow w.heap.size TRx 3 v n cs ∧ Below w.heap.size w w' := by
  by_cases h0 : n = 0
  · subst h0
    go_enter Try.func84, Try.ntmps84
    go_wp2
    go_ret
    have : cs = [] := by simpa using hn
    subst this
    exact ⟨_, rfl, World.ownsRow_nil _ _ _ _, Below.refl _ _⟩
  · obtain ⟨i0, hi, hz0, hz1, hz2⟩ := info_parts infoRx
    have b0 : ((n : Int) == 0) = false := by simp [h0]
    have h0' : 0 < n := by omega
    clear h0
    rcases h with rfl | ⟨ad, rfl, _, hc⟩
    · simp at hn; omega
    have HN : Hid (cs.length = n * 3) := hn
    clear hn
    go_enter Try.func84, Try.ntmps84
    go_wp2_with (first
      | (at_make; refine wpList_make_full _ rfl (.tmp 8) (.tmp 8) 32 rfl w.heap.size TRx i0 (.agg #[.int .i64 0, nilS, nilS]) 3 Try.underlying32 hi hz0 hz1 .i64 .i64 _ _ n rfl rfl rfl rfl (by rw [hz2]; omega) (by unfold maxLen; omega) (Nat.le_refl _) ?_; intro w1 hown hgrow; obtain ⟨cur, hB, hsz, _⟩ := own_blk hown; have hb1 := (Below.refl _ w).grown hgrow (Nat.le_refl _) (fun k hk => by cases hk); have hc1 := hc.below hb1; clear hown hgrow; have HS : Hid (cur.size = n * 3) := hsz; clear hsz)
      | (with_reducible refine ev_copy (o := ⟨some 12, _, _, _, _, _⟩) rfl (.tmp 10) (.tmp 11) _ _ rfl TRx Try.underlying32 3 sizeRx w.heap.size n n _ ad rfl rfl cur TRx hB cs HN.out hc1 (by rw [HN.out, HS.out]; exact Nat.le_refl _) h1 ?_; intro w2 hB2 hg2))
    go_ret
    have e : cur.toList.drop cs.length = [] := List.drop_of_length_le (by rw [Array.length_toList, HN.out, HS.out]; exact Nat.le_refl _)
    rw [e, List.append_nil] at hB2
    exact ⟨_, rfl, own_of_blk hB2 HN.out (Nat.le_refl _) (by unfold maxLen; omega), hb1.grown hg2 hb1.size (fun k hk => by injection hk with hk; omega)⟩
end Go.Proofs.Ytplhbjpkkhhilaa

/- Copies of trees: what their statements leave. -/
namespace Go.Proofs.Ytplhbjpkkhhilaa
set_option linter.unusedSimpArgs false
set_option linter.unusedVariables false
open Go.RowKit

/-- a row of trees, as cells -/
structure KRow (w : World) (lo : Nat) (K : Option Addr) (ks : List Rex) (cs : List Value) : Prop where
  row : Row w lo K cs
  len : cs.length = ks.length * 3
  one : ∀ u ∈ cs, u.oneCell' = true
  each : ∀ (i : Nat) (r : Rex), ks[i]? = some r → ∃ v1 v2, cs[i * 3]? = some (.int .i64 r.kind) ∧ cs[i * 3 + 1]? = some v1 ∧ cs[i * 3 + 2]? = some v2 ∧ RexV w lo r (.int .i64 r.kind) v1 v2
theorem KCell.succ {w : World} {lo : Nat} {K : Option Addr} {i : Nat} {u0 u1 u2 : Value} (h : KCell w lo K i u0 u1 u2) : ∃ a, K = some a ∧ lo ≤ a.block ∧ w.cell? (a.add (i * 3)) = some u0 ∧ w.cell? (a.add (i * 3 + 1)) = some u1 ∧ w.cell? (a.add (i * 3 + 2)) = some u2 := by
  obtain ⟨a, e, hl, h0, h1, h2⟩ := h.ex
  exact ⟨a, e, hl, h0, by rw [add_field _ _ 1 (by omega)]; exact h1, by rw [add_field _ _ 2 (by omega)]; exact h2⟩
def threes (f : Nat → Value × Value × Value) : Nat → List Value
  | 0 => []
  | n + 1 => threes f n ++ [(f n).1, (f n).2.1, (f n).2.2]
theorem threes_length (f : Nat → Value × Value × Value) : ∀ n, (threes f n).length = n * 3
  | 0 => rfl
  | n + 1 => by rw [threes, List.length_append, threes_length f n]; simp; omega
theorem threes_get (f : Nat → Value × Value × Value) : ∀ n i, i < n → (threes f n)[i * 3]? = some (f i).1 ∧ (threes f n)[i * 3 + 1]? = some (f i).2.1 ∧ (threes f n)[i * 3 + 2]? = some (f i).2.2
  | 0, i, h => absurd h (Nat.not_lt_zero _)
  | n + 1, i, h => by
    have hl := threes_length f n
    rw [threes]
    by_cases e : i = n
    · subst e
      refine ⟨?_, ?_, ?_⟩
      · rw [List.getElem?_append_right (by omega), hl]; simp
      · rw [List.getElem?_append_right (by omega), hl, show i * 3 + 1 - i * 3 = 1 by omega]; simp
      · rw [List.getElem?_append_right (by omega), hl, show i * 3 + 2 - i * 3 = 2 by omega]; simp
    · have := threes_get f n i (by omega)
      rw [List.getElem?_append_left (by omega), List.getElem?_append_left (by omega), List.getElem?_append_left (by omega)]
      exact this
theorem threes_mem (f : Nat → Value × Value × Value) : ∀ n u, u ∈ threes f n → ∃ i, i < n ∧ (u = (f i).1 ∨ u = (f i).2.1 ∨ u = (f i).2.2)
  | 0, u, h => by simp [threes] at h
  | n + 1, u, h => by
    rw [threes, List.mem_append] at h
    rcases h with h | h
    · obtain ⟨i, hi, e⟩ := threes_mem f n u h
      exact ⟨i, by omega, e⟩
    · simp at h
      exact ⟨n, by omega, h⟩
theorem Kids.krow {w : World} {lo : Nat} {K : Option Addr} {ck : Nat} {ks : List Rex} (h : Kids w lo K ck ks) : ∃ cs, KRow w lo K ks cs := by
  obtain ⟨⟨V0, V1, V2, hc, hr⟩, _, _⟩ := h
  refine ⟨threes (fun i => (V0 i, V1 i, V2 i)) ks.length, ?_, threes_length _ _, fun u hu => ?_, fun i r hi => ?_⟩
  · by_cases h0 : ks.length = 0
    · rw [h0]; exact .inl rfl
    · obtain ⟨a, rfl, hl, _⟩ := (hc 0 (by omega)).succ
      refine .inr ⟨a, rfl, hl, fun j u hj => ?_⟩
      have hjl : j < ks.length * 3 := by rw [← threes_length (fun i => (V0 i, V1 i, V2 i)) ks.length]; exact (List.getElem?_eq_some_iff.1 hj).1
      obtain ⟨i, t, ht, rfl⟩ : ∃ i t, t < 3 ∧ j = i * 3 + t := ⟨j / 3, j % 3, Nat.mod_lt _ (by omega), by omega⟩
      have hi : i < ks.length := by omega
      obtain ⟨a', e, _, c0, c1, c2⟩ := (hc i hi).succ
      injection e with e
      subst e
      obtain ⟨g0, g1, g2⟩ := threes_get (fun i => (V0 i, V1 i, V2 i)) ks.length i hi
      match t, ht with
      | 0, _ => rw [Nat.add_zero] at hj ⊢; rw [g0] at hj; injection hj with hj; subst hj; exact c0
      | 1, _ => rw [g1] at hj; injection hj with hj; subst hj; exact c1
      | 2, _ => rw [g2] at hj; injection hj with hj; subst hj; exact c2
  · obtain ⟨i, hi, e⟩ := threes_mem _ _ _ hu
    have hv := (hr i (ks[i]) (List.getElem?_eq_getElem hi)).one
    rcases e with e | e | e
    · exact hv u (by simp [e])
    · exact hv u (by simp [e])
    · exact hv u (by simp [e])
  · have hi' := (List.getElem?_eq_some_iff.1 hi).1
    have hv := hr i r hi
    obtain ⟨_, _, _, _, e0, _⟩ := hv.parts
    obtain ⟨g0, g1, g2⟩ := threes_get (fun i => (V0 i, V1 i, V2 i)) ks.length i hi'
    dsimp only at g0 g1 g2
    rw [e0] at g0 hv
    exact ⟨V1 i, V2 i, g0, g1, g2, hv⟩

def CopyPost (k : Int) (s : List Sp) (ks : List Rex) (w : World) (e : Ending) (w' : World) : Prop := ∃ u1 u2 fp, e = .returned (.agg #[.int .i64 k, u1, u2]) ∧ OwnT w' fp (.mk k s ks) u1 u2 ∧ fp.Nodup ∧ (∀ b, b ∈ fp → w.heap.size ≤ b) ∧ Below w.heap.size w w'
def CopyOk (r : Rex) : Prop := ∀ (v1 v2 : Value) (w : World) (lo : Nat), RexV w lo r (.int .i64 r.kind) v1 v2 → r.size ≤ 1073741824 →
  Calls Try.prog 64 #[.agg #[.int .i64 r.kind, v1, v2]] w (CopyPost r.kind r.set r.kids w)

/-- what the first statement leaves -/
structure CopyMid (wb wx : World) (g : Nat) (k : Int) (s : List Sp) (n : Nat) (cs : List Value) (vS vK : Value) : Prop where
  blk : Blk wx g #[.int .i64 k, vS, vK] TRx
  set : OwnSp wx wb.heap.size vS s
  row : wx.ownsRow wb.heap.size TRx 3 vK n cs
  bel : Below wb.heap.size wb wx
  gS : g ∉ vblk vS
  gK : g ∉ vblk vK
  gl : wb.heap.size ≤ g
  dj : ∀ b, b ∈ vblk vS → b ∈ vblk vK → False
def CopyMidP (wb : World) (k : Int) (s : List Sp) (n : Nat) (cs : List Value) (v : Value) (wx : World) : Prop := ∃ g vS vK, v = .pointer (some ⟨g, 0, none⟩) ∧ CopyMid wb wx g k s n cs vS vK

abbrev Z0 : Obj := .cells #[.int .i64 0, nilS, nilS] TRx (0, 0)
theorem own_re {w : World} {base base' n size : Nat} {e : TypeId} {v : Value} {cs : List Value} (h : w.ownsRow base e size v n cs) (hb : ∀ b, b ∈ vblk v → base' ≤ b) : w.ownsRow base' e size v n cs := by
  obtain ⟨h1, h2⟩ := h
  refine ⟨h1, h2.imp id ?_⟩
  rintro ⟨g, cap, cur, rfl, hg, r⟩
  exact ⟨g, cap, cur, rfl, hb g (by simp [vblk_some]), r⟩
theorem own_vlt {w : World} {base n size : Nat} {e : TypeId} {v : Value} {cs : List Value} (h : w.ownsRow base e size v n cs) : ∀ b, b ∈ vblk v → base ≤ b ∧ b < w.heap.size := fun b hb => h.lt b (mem_vblk.1 hb)
theorem mid_of {wa wX : World} {g : Nat} {k : Int} {s : List Sp} {n : Nat} {cs : List Value} {vS vK : Value} {lS lK : Nat} (hl : s.length ≤ maxN) (hB : Blk wX g #[.int .i64 k, vS, vK] TRx) (hS : wX.ownsRow lS TSp 2 vS s.length (spcs s)) (hK : wX.ownsRow lK TRx 3 vK n cs)
    (hb : Below wa.heap.size wa wX) (gl : wa.heap.size ≤ g) (bS : ∀ b, b ∈ vblk vS → wa.heap.size ≤ b ∧ b ≠ g) (bK : ∀ b, b ∈ vblk vK → wa.heap.size ≤ b ∧ b ≠ g) (dj : ∀ b, b ∈ vblk vS → b ∈ vblk vK → False) : CopyMidP wa k s n cs (.pointer (some ⟨g, 0, none⟩)) wX :=
  ⟨g, vS, vK, rfl, hB, ⟨own_re hS fun b h => (bS b h).1, hl⟩, own_re hK fun b h => (bK b h).1, hb, fun h => (bS g h).2 rfl, fun h => (bK g h).2 rfl, gl, dj⟩
theorem mid1 {wa wA wB : World} {k : Int} {s : List Sp} {n : Nat} {cs : List Value} {vS vK : Value} (hl : s.length ≤ maxN) (OS : wA.ownsRow wa.drew.heap.size TSp 2 vS s.length (spcs s)) (BS : Below wa.drew.heap.size wa.drew wA) (OK : wB.ownsRow wA.heap.size TRx 3 vK n cs) (BK : Below wA.heap.size wA wB) :
    CopyMidP wa k s n cs (.pointer (some ⟨wB.heap.size, 0, none⟩)) (wB.alloc (.cells #[.int .i64 k, vS, vK] TRx (0, 0))) := by
  have s1 : wa.heap.size ≤ wA.heap.size := BS.size
  have s2 := BK.size
  have e1 := own_vlt OS
  have e2 := own_vlt OK
  have e3 : ∀ b, b ∈ vblk vS → wa.heap.size ≤ b := fun b h => (e1 b h).1
  refine mid_of hl (blk_new _ _ _) (own_below (own_below OS BK) (below_alloc (Below.refl _ _) _)) (own_below OK (below_alloc (Below.refl _ _) _)) (below_alloc (below_then (below_drew (Below.refl wa.heap.size wa)) (below_then BS BK)) _) (by omega) (fun b h => ?_) (fun b h => ?_) (fun b h h' => ?_)
  · have := e1 b h; have := e3 b h; omega
  · have := e2 b h; omega
  · have := e1 b h; have := e2 b h'; omega
theorem mid2 {wa wA wB : World} {k : Int} {s : List Sp} {n : Nat} {cs : List Value} {vS vK : Value} (hl : s.length ≤ maxN) (OS : wA.ownsRow wa.drew.heap.size TSp 2 vS s.length (spcs s)) (BS : Below wa.drew.heap.size wa.drew wA) (OK : wB.ownsRow (wA.alloc Z0).heap.size TRx 3 vK n cs) (BK : Below (wA.alloc Z0).heap.size (wA.alloc Z0) wB) :
    CopyMidP wa k s n cs (.pointer (some ⟨wA.heap.size, 0, none⟩)) (((wB.setCell ⟨wA.heap.size, 0, none⟩ (.int .i64 k)).setCell ⟨wA.heap.size, 1, none⟩ vS).setCell ⟨wA.heap.size, 2, none⟩ vK) := by
  have s1 : wa.heap.size ≤ wA.heap.size := BS.size
  have s2 := BK.size
  have s3 : (wA.alloc Z0).heap.size = wA.heap.size + 1 := by simp
  have e1 := own_vlt OS
  have e2 := own_vlt OK
  have e3 : ∀ b, b ∈ vblk vS → wa.heap.size ≤ b := fun b h => (e1 b h).1
  have hZ : Blk wB wA.heap.size #[.int .i64 0, nilS, nilS] TRx := (blk_new wA _ _).below BK
  have far : ∀ b, b ≠ wA.heap.size → (((wB.setCell ⟨wA.heap.size, 0, none⟩ (.int .i64 k)).setCell ⟨wA.heap.size, 1, none⟩ vS).setCell ⟨wA.heap.size, 2, none⟩ vK).heap[b]? = wB.heap[b]? := fun b hb =>
    (Below.heap_setCell _ _ _ _ hb).trans ((Below.heap_setCell _ _ _ _ hb).trans (Below.heap_setCell _ _ _ _ hb))
  have OS2 := own_below (own_below OS (below_alloc (Below.refl _ _) Z0)) BK
  refine mid_of hl (by simpa using ((hZ.set 0 (.int .i64 k)).set 1 vS).set 2 vK) (own_move OS2 fun b h => far b ?_) (own_move OK fun b h => far b ?_)
    (below_set (below_set (below_set (below_then (below_drew (Below.refl wa.heap.size wa)) (below_then BS (below_then (below_alloc (Below.refl _ _) _) BK))) s1 _) s1 _) s1 _) s1 (fun b h => ?_) (fun b h => ?_) (fun b h h' => ?_)
  · have := e1 b (mem_vblk.2 h); omega
  · have := e2 b (mem_vblk.2 h); omega
  · have := e1 b h; have := e3 b h; omega
  · have := e2 b h; omega
  · have := e1 b h; have := e2 b h'; omega
theorem mid3 {wa wA wB : World} {k : Int} {s : List Sp} {n : Nat} {cs : List Value} {vS vK : Value} (hl : s.length ≤ maxN) (OS : wA.ownsRow (wa.alloc Z0).drew.heap.size TSp 2 vS s.length (spcs s)) (BS : Below (wa.alloc Z0).drew.heap.size (wa.alloc Z0).drew wA) (OK : wB.ownsRow wA.heap.size TRx 3 vK n cs) (BK : Below wA.heap.size wA wB) :
    CopyMidP wa k s n cs (.pointer (some ⟨wa.heap.size, 0, none⟩)) (((wB.setCell ⟨wa.heap.size, 0, none⟩ (.int .i64 k)).setCell ⟨wa.heap.size, 1, none⟩ vS).setCell ⟨wa.heap.size, 2, none⟩ vK) := by
  have s0 : (wa.alloc Z0).drew.heap.size = wa.heap.size + 1 := by simp
  have s1 := BS.size
  have s2 := BK.size
  have e1 := own_vlt OS
  have e2 := own_vlt OK
  have hZ : Blk wB wa.heap.size #[.int .i64 0, nilS, nilS] TRx := ((show Blk (wa.alloc Z0).drew wa.heap.size #[.int .i64 0, nilS, nilS] TRx from ⟨(blk_new wa _ _).eq⟩).below BS).below BK
  have far : ∀ b, b ≠ wa.heap.size → (((wB.setCell ⟨wa.heap.size, 0, none⟩ (.int .i64 k)).setCell ⟨wa.heap.size, 1, none⟩ vS).setCell ⟨wa.heap.size, 2, none⟩ vK).heap[b]? = wB.heap[b]? := fun b hb =>
    (Below.heap_setCell _ _ _ _ hb).trans ((Below.heap_setCell _ _ _ _ hb).trans (Below.heap_setCell _ _ _ _ hb))
  refine mid_of hl (by simpa using ((hZ.set 0 (.int .i64 k)).set 1 vS).set 2 vK) (own_move (own_below OS BK) fun b h => far b ?_) (own_move OK fun b h => far b ?_)
    (below_set (below_set (below_set (below_then (below_drew (below_alloc (Below.refl wa.heap.size wa) Z0)) (below_then BS BK)) (Nat.le_refl _) _) (Nat.le_refl _) _) (Nat.le_refl _) _) (Nat.le_refl _) (fun b h => ?_) (fun b h => ?_) (fun b h h' => ?_)
  · have := e1 b (mem_vblk.2 h); omega
  · have := e2 b (mem_vblk.2 h); omega
  · have := e1 b h; omega
  · have := e2 b h; omega
  · have := e1 b h; have := e2 b h'; omega

theorem three_one (k : Int) (A K : Option Addr) (n m c d : Nat) : ∀ u ∈ [Value.int .i64 k, .slice A n c, .slice K m d], u.oneCell' = true := by
  intro u hu
  simp at hu
  rcases hu with rfl | rfl | rfl <;> rfl
theorem copy_fin {w wa wr w5 : World} {k : Int} {s : List Sp} {ks : List Rex} {vS vK : Value} {fk : List Nat} {L : List KInfo} (hz : w.heap.size + 1 < wa.heap.size) (HB : Below w.heap.size w wa) (HOS : OwnSp wr wa.heap.size vS s) (HOK : OwnK wr fk ks vK L) (HBE : Below wa.heap.size wa wr)
    (HFK : ∀ b, b ∈ fk → wa.heap.size ≤ b ∧ b ∉ vblk vS) (HG : wr.grownBy w5 (some (w.heap.size + 1))) : CopyPost k s ks w (.returned (.agg #[.int .i64 k, vS, vK])) w5 := by
  have hfr : ∀ b, b < wr.heap.size → b ≠ w.heap.size + 1 → w5.heap[b]? = wr.heap[b]? := fun b hb hne => HG.block b hb fun e => by injection e with e; exact hne e
  have nd : (vblk vS ++ fk).Nodup := by
    refine List.nodup_append.2 ⟨?_, HOK.nd, fun a ha b hb e => (HFK b hb).2 (e ▸ ha)⟩
    unfold vblk; split <;> simp
  have hlo : ∀ b, b ∈ vblk vS ++ fk → wa.heap.size ≤ b := fun b hb => by
    rcases List.mem_append.1 hb with hb | hb
    · exact (HOS.lt b hb).1
    · exact (HFK b hb).1
  refine ⟨vS, vK, vblk vS ++ fk, rfl, ?_, nd, fun b hb => by have := hlo b hb; omega, (below_then HB HBE).grown HG (Nat.le_trans HB.size HBE.size) (fun q hq => by injection hq with hq; omega)⟩
  refine (OwnT.of (k := k) (HOS.lower (Nat.zero_le _)) HOK nd).stay fun b hb => ?_
  have hT := (OwnT.of (k := k) (HOS.lower (Nat.zero_le _)) HOK nd).lt b hb
  exact hfr b hT (by have := hlo b hb; omega)

theorem splice_set (cur : Array Value) (j : Nat) (a b c : Value) (h : j * 3 + 3 ≤ cur.size) :
    ((cur.setIfInBounds (j * 3) a).setIfInBounds (j * 3 + 1) b).setIfInBounds (j * 3 + 2) c = (cur.toList.take (j * 3) ++ [a, b, c] ++ cur.toList.drop (j * 3 + 3)).toArray := by
  obtain ⟨l⟩ := cur
  simp only [List.setIfInBounds_toArray, List.size_toArray] at h ⊢
  congr 1
  apply List.ext_getElem?
  intro t
  have hl : (l.take (j * 3)).length = j * 3 := by rw [List.length_take]; omega
  rw [List.getElem?_set, List.getElem?_set, List.getElem?_set, List.append_assoc]
  simp only [List.length_set]
  by_cases h0 : t < j * 3
  · rw [if_neg (by omega), if_neg (by omega), if_neg (by omega), List.getElem?_append_left (by omega), List.getElem?_take, if_pos h0]
  · rw [List.getElem?_append_right (by omega), hl]
    by_cases h1 : t < j * 3 + 3
    · obtain ⟨d, rfl⟩ : ∃ d, t = j * 3 + d := ⟨t - j * 3, by omega⟩
      rw [show j * 3 + d - j * 3 = d by omega]
      match d, (show d < 3 by omega) with
      | 0, _ => rw [if_neg (by omega), if_neg (by omega), if_pos (by omega), if_pos (by omega)]; rfl
      | 1, _ => rw [if_neg (by omega), if_pos rfl, if_pos (by omega)]; rfl
      | 2, _ => rw [if_pos rfl, if_pos (by omega)]; rfl
    · rw [if_neg (by omega), if_neg (by omega), if_neg (by omega), List.getElem?_append_right (by simp; omega), List.getElem?_drop]
      congr 1
      simp
      omega
theorem splice_ge (l : List Value) (a b c : Value) (j t : Nat) (h : j * 3 + 3 ≤ l.length) (ht : (j + 1) * 3 ≤ t) : (l.take (j * 3) ++ [a, b, c] ++ l.drop (j * 3 + 3)).toArray[t]? = l[t]? := by
  have hl : (l.take (j * 3) ++ [a, b, c]).length = j * 3 + 3 := by simp only [List.length_append, List.length_take, List.length_cons, List.length_nil]; omega
  rw [List.getElem?_toArray, List.getElem?_append_right (by omega), hl, List.getElem?_drop]
  congr 1
  omega
theorem copy_round {wr wD : World} {gK lo cap j n : Nat} {cur : Array Value} {ks : List Rex} {L : List KInfo} {r : Rex} {fp : List Nat} {v1 v2 : Value} {cs : List Value} (HX : KPart wr gK lo cap cur ks j L) (HR : ks[j]? = some r) (b2 : Below wr.heap.size wr wD) (HO : OwnT wD fp r v1 v2) (HF : ∀ b, b ∈ fp → wr.heap.size ≤ b) (HN : fp.Nodup)
    (hlo : lo ≤ wr.heap.size) (HT : ∀ t, j * 3 ≤ t → t < ks.length * 3 → cur[t]? = cs[t]?) :
    ∃ cur', KPart (((wD.setCell ⟨gK, j * 3, none⟩ (.int .i64 r.kind)).setCell ⟨gK, j * 3 + 1, none⟩ v1).setCell ⟨gK, j * 3 + 2, none⟩ v2) gK lo cap cur' ks (j + 1) (L ++ [⟨fp, v1, v2⟩]) ∧ ∀ t, (j + 1) * 3 ≤ t → t < ks.length * 3 → cur'[t]? = cs[t]? := by
  have hj := (List.getElem?_eq_some_iff.1 HR).1
  have hsz := HX.size
  have hcn := HX.capn
  have hX5 : Blk (((wD.setCell ⟨gK, j * 3, none⟩ (.int .i64 r.kind)).setCell ⟨gK, j * 3 + 1, none⟩ v1).setCell ⟨gK, j * 3 + 2, none⟩ v2) gK (cur.toList.take (j * 3) ++ [.int .i64 r.kind, v1, v2] ++ cur.toList.drop (j * 3 + 3)).toArray TRx := by
    rw [← splice_set cur j _ _ _ (by omega)]
    exact (((HX.blk.below b2).set _ _).set _ _).set _ _
  refine ⟨_, HX.snoc HR b2 HO HF HN hX5 (grown_set (grown_set (grown_set (grown_refl _ _) _ _) _ _) _ _) hlo, fun t h1 h2 => ?_⟩
  rw [splice_ge _ _ _ _ _ _ (by rw [Array.length_toList]; omega) h1, Array.getElem?_toList]
  exact HT t (by omega) h2

end Go.Proofs.Ytplhbjpkkhhilaa

/- normNot, normStar, of the program and of the reference. -/
namespace Go.Proofs.Ytplhbjpkkhhilaa
set_option linter.unusedSimpArgs false
set_option linter.unusedVariables false
open Go.RowKit

def isNo (r : Rex) : Bool := decide (r.kind = 1) && r.set.isEmpty
theorem isNo_iff (r : Rex) : isNo r = true ↔ r.kind = 1 ∧ r.set = [] := by simp [isNo]
def kid0 (r : Rex) : Rex := r.kids.getD 0 default
def nNot (r : Rex) : Rex := if r.kind = 7 then kid0 r else .mk 7 [] [r]
def nStar (r : Rex) : Rex := if r.kind = 5 then r else if r.kind = 2 ∨ isNo r = true then .mk 2 [] [] else .mk 5 [] [r]

theorem iNo_c (r : Rex) (v1 v2 : Value) (w : World) (lo : Nat) (h : RexV w lo r (.int .i64 r.kind) v1 v2) :
    Calls Try.prog 85 #[.agg #[.int .i64 r.kind, v1, v2]] w fun e w' => e = .returned (.bool (isNo r)) ∧ Below w.heap.size w w' := by
  obtain ⟨A, c, K, ck, _, rfl, rfl, hs, hk⟩ := h.parts
  clear h hk
  have hl := hs.len
  by_cases h1 : r.kind = 1
  · by_cases h2 : r.set.length = 0
    · have E : Hid (isNo r = true) := (isNo_iff r).2 ⟨h1, List.length_eq_zero_iff.1 h2⟩
      rw [h1, h2]
      clear h1 h2 hs hl
      go_enter Try.func85, Try.ntmps85
      go_wp2
      go_ret
      exact ⟨ret_bool E.out.symm, below_alloc (Below.refl _ _) _⟩
    · have E : Hid (isNo r = false) := by show _ = _; rw [isNo, Bool.and_eq_false_iff]; right; cases h : r.set with | nil => rw [h] at h2; exact absurd rfl h2 | cons x xs => rfl
      rw [h1]
      obtain ⟨n, hn⟩ : ∃ n, n = r.set.length := ⟨_, rfl⟩
      rw [← hn] at h2 ⊢
      have d : ((n : Int) == 0) = false := by simp [h2]
      have d2 : (n == 0) = false := by simp [h2]
      clear h1 h2 hs hl hn
      go_enter Try.func85, Try.ntmps85
      go_wp2
      go_ret
      exact ⟨ret_bool E.out.symm, below_alloc (Below.refl _ _) _⟩
  · have E : Hid (isNo r = false) := by show _ = _; rw [isNo, decide_eq_false h1]; rfl
    obtain ⟨k, hk⟩ : ∃ k, k = r.kind := ⟨_, rfl⟩
    rw [← hk] at h1 ⊢
    have d : (k == 1) = false := by simp [h1]
    clear h1 hs hl hk
    go_enter Try.func85, Try.ntmps85
    go_wp2
    go_ret
    exact ⟨ret_bool E.out.symm, below_alloc (Below.refl _ _) _⟩
theorem sNo_c (r : Rex) (v1 v2 : Value) (w : World) (lo : Nat) (h : RexV w lo r (.int .i64 r.kind) v1 v2) :
    Calls Try.prog 86 #[.agg #[.int .i64 r.kind, v1, v2]] w fun e w' => e = .returned (.bool (isNo r)) ∧ Below w.heap.size w w' := by
  obtain ⟨A, c, K, ck, _, rfl, rfl, hs, hk⟩ := h.parts
  clear h hk
  have hl := hs.len
  by_cases h1 : r.kind = 1
  · by_cases h2 : r.set.length = 0
    · have E : Hid (isNo r = true) := (isNo_iff r).2 ⟨h1, List.length_eq_zero_iff.1 h2⟩
      rw [h1, h2]
      clear h1 h2 hs hl
      go_enter Try.func86, Try.ntmps86
      go_wp2
      go_ret
      exact ⟨ret_bool E.out.symm, below_alloc (Below.refl _ _) _⟩
    · have E : Hid (isNo r = false) := by show _ = _; rw [isNo, Bool.and_eq_false_iff]; right; cases h : r.set with | nil => rw [h] at h2; exact absurd rfl h2 | cons x xs => rfl
      rw [h1]
      obtain ⟨n, hn⟩ : ∃ n, n = r.set.length := ⟨_, rfl⟩
      rw [← hn] at h2 ⊢
      have d : ((n : Int) == 0) = false := by simp [h2]
      have d2 : (n == 0) = false := by simp [h2]
      clear h1 h2 hs hl hn
      go_enter Try.func86, Try.ntmps86
      go_wp2
      go_ret
      exact ⟨ret_bool E.out.symm, below_alloc (Below.refl _ _) _⟩
  · have E : Hid (isNo r = false) := by show _ = _; rw [isNo, decide_eq_false h1]; rfl
    obtain ⟨k, hk⟩ : ∃ k, k = r.kind := ⟨_, rfl⟩
    rw [← hk] at h1 ⊢
    have d : (k == 1) = false := by simp [h1]
    clear h1 hs hl hk
    go_enter Try.func86, Try.ntmps86
    go_wp2
    go_ret
    exact ⟨ret_bool E.out.symm, below_alloc (Below.refl _ _) _⟩

set_option maxHeartbeats 1000000 in
theorem iNot_c (r : Rex) (d : Nat) (v1 v2 : Value) (w : World) (p : Nat → Prop) (hf : formed d r = true) (h : RexP w p r (.int .i64 r.kind) v1 v2) (hp : ∀ b, p b → b < w.heap.size) :
    Calls Try.prog 66 #[.agg #[.int .i64 r.kind, v1, v2]] w (RexPost p (nNot r) w) := by
  obtain ⟨A, c, K, ck, _, rfl, rfl, hs, hk⟩ := h.parts
  obtain ⟨wa, hwa⟩ : ∃ x, x = (w.alloc (.cells #[.int .i64 r.kind, .slice A r.set.length c, .slice K r.kids.length ck] TRx)).alloc (.cells #[.int .i64 0, nilS, nilS] TRx) := ⟨_, rfl⟩
  have hb : Below w.heap.size w wa := by rw [hwa]; exact below_alloc (below_alloc (Below.refl _ _) _) _
  have m0 : Blk wa w.heap.size #[.int .i64 r.kind, .slice A r.set.length c, .slice K r.kids.length ck] TRx := by rw [hwa]; exact (blk_new w _ _).alloc _
  have m1 : Blk wa (w.heap.size + 1) #[.int .i64 0, nilS, nilS] TRx := by
    rw [hwa]
    have := blk_new (w.alloc (.cells #[.int .i64 r.kind, .slice A r.set.length c, .slice K r.kids.length ck] TRx)) #[.int .i64 0, nilS, nilS] TRx
    simpa using this
  have hz1 : wa.heap.size = w.heap.size + 2 := by rw [hwa]; simp
  have HZ := Lib.hid hz1
  clear hz1
  replace hwa := hwa.symm
  have HV := Lib.hid (h.under hb)
  have HB := Lib.hid hb
  have M0 := Lib.hid m0
  have M1 := Lib.hid m1
  have HP := Lib.hid hp
  have n0 : wa.cell? ⟨w.heap.size, 0, none⟩ = some (.int .i64 r.kind) := by rw [m0.cell]; rfl
  have n1 : wa.cell? ⟨w.heap.size, 1, none⟩ = some (.slice A r.set.length c) := by rw [m0.cell]; rfl
  have n2 : wa.cell? ⟨w.heap.size, 2, none⟩ = some (.slice K r.kids.length ck) := by rw [m0.cell]; rfl
  clear hb m0 m1 hs hk h hp
  by_cases hk : r.kind = 7
  · obtain ⟨a, ha⟩ : ∃ a, r.kids = [a] := by
      obtain ⟨k, s, ks⟩ := r
      rcases formed_shape hf with ⟨e, _⟩ | ⟨_, a, e, _⟩ | ⟨e, _⟩
      · exfalso; have : k = 7 := hk; omega
      · exact ⟨a, e⟩
      · exfalso; have : k = 7 := hk; omega
    have E : Hid (nNot r = a) := by show _ = _; rw [nNot, if_pos hk, kid0, ha]; rfl
    obtain ⟨_, _, _, _, _, e1, e2, _, hkk⟩ := HV.out.parts
    injection e2 with e3 e4 e5
    subst e3 e5
    rw [ha] at hkk
    obtain ⟨ad, A2, c2, K2, d2, rfl, hv, c0, c1, c2'⟩ := hkk.one
    have HA := Lib.hid hv
    have HM := Lib.hid M0.out
    have d7 : (r.kind == 7) = true := by simp [hk]
    rw [ha] at hwa n2 ⊢
    clear e1 e4 hkk hv hk ha M0
    simp only [List.length_cons, List.length_nil, Nat.zero_add] at hwa n2 ⊢
    go_enter Try.func66, Try.ntmps66
    go_wp2_with (refine ev_store (o := ⟨none, .store _ (.tmp 2) _, _, _, _, _⟩) rfl rfl TRx (.tmp 2) (.tmp 9) rfl (w.heap.size + 1) 0 rfl [.int .i64 a.kind, .slice A2 a.set.length c2, .slice K2 a.kids.length d2] rfl _ TRx M1.out (sizeRx' _ _ _) (by show 0 + 3 ≤ 3; omega) (three_one _ _ _ _ _ _ _) ?_; intro w5 hX5 hg5; have HX5 : Hid (Blk w5 (w.heap.size + 1) ([.int .i64 a.kind, .slice A2 a.set.length c2, .slice K2 a.kids.length d2]).toArray TRx) := hX5; have HG5 := Lib.hid hg5; clear hX5 hg5)
    refine bodyPost_ret (results_cell_row rfl _ _ (w.heap.size + 1) TRx _ (0, 0) _ rfl HX5.out.eq Try.underlying34 rfl (by rw [sizeRx]; rfl)) rfl ?_
    rw [E.out]
    exact rex_fin rfl rfl HP.out (HA.out.mono fun b hb => ⟨fun e => by have := HP.out b hb; omega, .inl hb⟩) HB.out HG5.out (Nat.le_succ _)
  · have E : Hid (nNot r = .mk 7 [] [r]) := by show _ = _; rw [nNot, if_neg hk]
    have d7 : (r.kind == 7) = false := by simp [hk]
    clear hk
    obtain ⟨wb, hwb⟩ : ∃ x, x = wa.alloc (.cells #[.int .i64 r.kind, .slice A r.set.length c, .slice K r.kids.length ck] TRx) := ⟨_, rfl⟩
    have hbb : Below wa.heap.size wa wb := by rw [hwb]; exact below_alloc (Below.refl _ _) _
    have mb : Blk wb wa.heap.size #[.int .i64 r.kind, .slice A r.set.length c, .slice K r.kids.length ck] TRx := by rw [hwb]; exact blk_new _ _ _
    have MB := Lib.hid mb
    have M1b := Lib.hid (M1.out.below hbb)
    have HVb := Lib.hid (HV.out.under hbb)
    have HBb := Lib.hid (below_then HB.out hbb)
    replace hwb := hwb.symm
    clear mb hbb
    go_enter Try.func66, Try.ntmps66
    go_wp2_with (refine ev_store (o := ⟨none, .store _ (.tmp 2) _, _, _, _, _⟩) rfl rfl TRx (.tmp 2) (.tmp 12) rfl (w.heap.size + 1) 0 rfl [.int .i64 7, nilS, .slice (some ⟨wa.heap.size, 0, none⟩) 1 1] rfl _ TRx M1b.out (sizeRx' _ _ _) (by show 0 + 3 ≤ 3; omega) (three_one _ _ _ _ _ _ _) ?_; intro w5 hX5 hg5; have HX5 : Hid (Blk w5 (w.heap.size + 1) ([.int .i64 7, nilS, .slice (some ⟨wa.heap.size, 0, none⟩) 1 1]).toArray TRx) := hX5; have HG5 := Lib.hid hg5; clear hX5 hg5)
    refine bodyPost_ret (results_cell_row rfl _ _ (w.heap.size + 1) TRx _ (0, 0) _ rfl HX5.out.eq Try.underlying34 rfl (by rw [sizeRx]; rfl)) rfl ?_
    rw [E.out]
    refine rex_fin rfl rfl HP.out ?_ HBb.out HG5.out (Nat.le_succ _)
    refine RexP.of (k := 7) (s := []) (ks := [r]) ⟨⟨.inl rfl, Nat.le_refl _, by simp⟩, fun a e => by cases e⟩ (KidsP.mk1 MB.out ⟨by rw [HZ.out]; omega, .inr (by rw [HZ.out]; omega)⟩ (HVb.out.mono fun b hb => ⟨fun e => by have := HP.out b hb; omega, .inl hb⟩))
set_option maxHeartbeats 1000000 in
theorem sNot_c (r : Rex) (d : Nat) (v1 v2 : Value) (w : World) (p : Nat → Prop) (hf : formed d r = true) (h : RexP w p r (.int .i64 r.kind) v1 v2) (hp : ∀ b, p b → b < w.heap.size) :
    Calls Try.prog 70 #[.agg #[.int .i64 r.kind, v1, v2]] w (RexPost p (nNot r) w) := by
  obtain ⟨A, c, K, ck, _, rfl, rfl, hs, hk⟩ := h.parts
  obtain ⟨wa, hwa⟩ : ∃ x, x = (w.alloc (.cells #[.int .i64 r.kind, .slice A r.set.length c, .slice K r.kids.length ck] TRx)).alloc (.cells #[.int .i64 0, nilS, nilS] TRx) := ⟨_, rfl⟩
  have hb : Below w.heap.size w wa := by rw [hwa]; exact below_alloc (below_alloc (Below.refl _ _) _) _
  have m0 : Blk wa w.heap.size #[.int .i64 r.kind, .slice A r.set.length c, .slice K r.kids.length ck] TRx := by rw [hwa]; exact (blk_new w _ _).alloc _
  have m1 : Blk wa (w.heap.size + 1) #[.int .i64 0, nilS, nilS] TRx := by
    rw [hwa]
    have := blk_new (w.alloc (.cells #[.int .i64 r.kind, .slice A r.set.length c, .slice K r.kids.length ck] TRx)) #[.int .i64 0, nilS, nilS] TRx
    simpa using this
  have hz1 : wa.heap.size = w.heap.size + 2 := by rw [hwa]; simp
  have HZ := Lib.hid hz1
  clear hz1
  replace hwa := hwa.symm
  have HV := Lib.hid (h.under hb)
  have HB := Lib.hid hb
  have M0 := Lib.hid m0
  have M1 := Lib.hid m1
  have HP := Lib.hid hp
  have n0 : wa.cell? ⟨w.heap.size, 0, none⟩ = some (.int .i64 r.kind) := by rw [m0.cell]; rfl
  have n1 : wa.cell? ⟨w.heap.size, 1, none⟩ = some (.slice A r.set.length c) := by rw [m0.cell]; rfl
  have n2 : wa.cell? ⟨w.heap.size, 2, none⟩ = some (.slice K r.kids.length ck) := by rw [m0.cell]; rfl
  clear hb m0 m1 hs hk h hp
  by_cases hk : r.kind = 7
  · obtain ⟨a, ha⟩ : ∃ a, r.kids = [a] := by
      obtain ⟨k, s, ks⟩ := r
      rcases formed_shape hf with ⟨e, _⟩ | ⟨_, a, e, _⟩ | ⟨e, _⟩
      · exfalso; have : k = 7 := hk; omega
      · exact ⟨a, e⟩
      · exfalso; have : k = 7 := hk; omega
    have E : Hid (nNot r = a) := by show _ = _; rw [nNot, if_pos hk, kid0, ha]; rfl
    obtain ⟨_, _, _, _, _, e1, e2, _, hkk⟩ := HV.out.parts
    injection e2 with e3 e4 e5
    subst e3 e5
    rw [ha] at hkk
    obtain ⟨ad, A2, c2, K2, d2, rfl, hv, c0, c1, c2'⟩ := hkk.one
    have HA := Lib.hid hv
    have HM := Lib.hid M0.out
    have d7 : (r.kind == 7) = true := by simp [hk]
    rw [ha] at hwa n2 ⊢
    clear e1 e4 hkk hv hk ha M0
    simp only [List.length_cons, List.length_nil, Nat.zero_add] at hwa n2 ⊢
    go_enter Try.func70, Try.ntmps70
    go_wp2_with (refine ev_store (o := ⟨none, .store _ (.tmp 2) _, _, _, _, _⟩) rfl rfl TRx (.tmp 2) (.tmp 9) rfl (w.heap.size + 1) 0 rfl [.int .i64 a.kind, .slice A2 a.set.length c2, .slice K2 a.kids.length d2] rfl _ TRx M1.out (sizeRx' _ _ _) (by show 0 + 3 ≤ 3; omega) (three_one _ _ _ _ _ _ _) ?_; intro w5 hX5 hg5; have HX5 : Hid (Blk w5 (w.heap.size + 1) ([.int .i64 a.kind, .slice A2 a.set.length c2, .slice K2 a.kids.length d2]).toArray TRx) := hX5; have HG5 := Lib.hid hg5; clear hX5 hg5)
    refine bodyPost_ret (results_cell_row rfl _ _ (w.heap.size + 1) TRx _ (0, 0) _ rfl HX5.out.eq Try.underlying34 rfl (by rw [sizeRx]; rfl)) rfl ?_
    rw [E.out]
    exact rex_fin rfl rfl HP.out (HA.out.mono fun b hb => ⟨fun e => by have := HP.out b hb; omega, .inl hb⟩) HB.out HG5.out (Nat.le_succ _)
  · have E : Hid (nNot r = .mk 7 [] [r]) := by show _ = _; rw [nNot, if_neg hk]
    have d7 : (r.kind == 7) = false := by simp [hk]
    clear hk
    obtain ⟨wb, hwb⟩ : ∃ x, x = wa.alloc (.cells #[.int .i64 r.kind, .slice A r.set.length c, .slice K r.kids.length ck] TRx) := ⟨_, rfl⟩
    have hbb : Below wa.heap.size wa wb := by rw [hwb]; exact below_alloc (Below.refl _ _) _
    have mb : Blk wb wa.heap.size #[.int .i64 r.kind, .slice A r.set.length c, .slice K r.kids.length ck] TRx := by rw [hwb]; exact blk_new _ _ _
    have MB := Lib.hid mb
    have M1b := Lib.hid (M1.out.below hbb)
    have HVb := Lib.hid (HV.out.under hbb)
    have HBb := Lib.hid (below_then HB.out hbb)
    replace hwb := hwb.symm
    clear mb hbb
    go_enter Try.func70, Try.ntmps70
    go_wp2_with (refine ev_store (o := ⟨none, .store _ (.tmp 2) _, _, _, _, _⟩) rfl rfl TRx (.tmp 2) (.tmp 12) rfl (w.heap.size + 1) 0 rfl [.int .i64 7, nilS, .slice (some ⟨wa.heap.size, 0, none⟩) 1 1] rfl _ TRx M1b.out (sizeRx' _ _ _) (by show 0 + 3 ≤ 3; omega) (three_one _ _ _ _ _ _ _) ?_; intro w5 hX5 hg5; have HX5 : Hid (Blk w5 (w.heap.size + 1) ([.int .i64 7, nilS, .slice (some ⟨wa.heap.size, 0, none⟩) 1 1]).toArray TRx) := hX5; have HG5 := Lib.hid hg5; clear hX5 hg5)
    refine bodyPost_ret (results_cell_row rfl _ _ (w.heap.size + 1) TRx _ (0, 0) _ rfl HX5.out.eq Try.underlying34 rfl (by rw [sizeRx]; rfl)) rfl ?_
    rw [E.out]
    refine rex_fin rfl rfl HP.out ?_ HBb.out HG5.out (Nat.le_succ _)
    refine RexP.of (k := 7) (s := []) (ks := [r]) ⟨⟨.inl rfl, Nat.le_refl _, by simp⟩, fun a e => by cases e⟩ (KidsP.mk1 MB.out ⟨by rw [HZ.out]; omega, .inr (by rw [HZ.out]; omega)⟩ (HVb.out.mono fun b hb => ⟨fun e => by have := HP.out b hb; omega, .inl hb⟩))

end Go.Proofs.Ytplhbjpkkhhilaa
