/- Texts joined for the claims: RexP T4 Bw T7 T8 T5 T6 T6p. -/
import Derived.Test.YtfeidjjabjejiaaGreatDoorG2
import Derived.Test.YtfeidjjabjejiaaGreatDoorG1
/- Trees in memory, whose blocks are known to be among some. -/
namespace Go.Proofs.YtfeidjjabjejiaaGreatDoor
set_option linter.unusedSimpArgs false
set_option linter.unusedVariables false
set_option maxRecDepth 100000
open Go.RowKit

inductive RexP (w : World) (p : Nat → Prop) : Rex → Value → Value → Value → Prop
  | mk (k : Int) (s : List Sp) (ks : List Rex) (A K : Option Addr) (c ck : Nat) (V0 V1 V2 : Nat → Value) (hs : Sps w 0 A c s) (ps : ∀ a, A = some a → s ≠ [] → p a.block) (hn : ks.length ≤ ck) (hl : ks.length ≤ maxN)
      (hc : ∀ i, i < ks.length → KCell w 0 K i (V0 i) (V1 i) (V2 i)) (pk : ∀ a, K = some a → ks ≠ [] → p a.block) (hr : ∀ i r, ks[i]? = some r → RexP w p r (V0 i) (V1 i) (V2 i)) : RexP w p (.mk k s ks) (.int .i64 k) (.slice A s.length c) (.slice K ks.length ck)

structure SpsP (w : World) (p : Nat → Prop) (A : Option Addr) (c : Nat) (s : List Sp) : Prop where
  sps : Sps w 0 A c s
  ok : ∀ a, A = some a → s ≠ [] → p a.block
structure KidsP (w : World) (p : Nat → Prop) (K : Option Addr) (ck : Nat) (ks : List Rex) : Prop where
  ex : ∃ V0 V1 V2 : Nat → Value, (∀ i, i < ks.length → KCell w 0 K i (V0 i) (V1 i) (V2 i)) ∧ ∀ i r, ks[i]? = some r → RexP w p r (V0 i) (V1 i) (V2 i)
  cap : ks.length ≤ ck
  len : ks.length ≤ maxN
  ok : ∀ a, K = some a → ks ≠ [] → p a.block
theorem RexP.parts {w : World} {p : Nat → Prop} {r : Rex} {v0 v1 v2 : Value} (h : RexP w p r v0 v1 v2) :
    ∃ A c K ck, v0 = .int .i64 r.kind ∧ v1 = .slice A r.set.length c ∧ v2 = .slice K r.kids.length ck ∧ SpsP w p A c r.set ∧ KidsP w p K ck r.kids := by
  cases h with
  | mk k s ks A K c ck V0 V1 V2 hs ps hn hl hc pk hr => exact ⟨A, c, K, ck, rfl, rfl, rfl, ⟨hs, ps⟩, ⟨V0, V1, V2, hc, hr⟩, hn, hl, pk⟩
theorem RexP.of {w : World} {p : Nat → Prop} {k : Int} {s : List Sp} {ks : List Rex} {A K : Option Addr} {c ck : Nat} (hs : SpsP w p A c s) (hk : KidsP w p K ck ks) : RexP w p (.mk k s ks) (.int .i64 k) (.slice A s.length c) (.slice K ks.length ck) := by
  obtain ⟨⟨V0, V1, V2, hc, hr⟩, h1, h2, h3⟩ := hk
  exact .mk k s ks A K c ck V0 V1 V2 hs.sps hs.ok h1 h2 hc h3 hr
theorem RexP.rexv {w : World} {p : Nat → Prop} {r : Rex} {v0 v1 v2 : Value} (h : RexP w p r v0 v1 v2) : RexV w 0 r v0 v1 v2 := by
  induction h with
  | mk k s ks A K c ck V0 V1 V2 hs ps hn hl hc pk hr ih => exact .mk k s ks A K c ck V0 V1 V2 hs hn hl hc ih
theorem KidsP.kids {w : World} {p : Nat → Prop} {K : Option Addr} {ck : Nat} {ks : List Rex} (h : KidsP w p K ck ks) : Kids w 0 K ck ks := by
  obtain ⟨⟨V0, V1, V2, hc, hr⟩, h1, h2, h3⟩ := h
  exact ⟨⟨V0, V1, V2, hc, fun i r e => (hr i r e).rexv⟩, h1, h2⟩
theorem Sps.blk {w : World} {lo : Nat} {A : Option Addr} {c : Nat} {s : List Sp} (h : Sps w lo A c s) : ∀ a, A = some a → s ≠ [] → a.block < w.heap.size := by
  intro a ha hs
  have hl : 0 < s.length := List.length_pos_iff.2 hs
  obtain ⟨a', x, e, _, _, c0, _⟩ := h.at_ 0 hl
  rw [ha] at e
  injection e with e
  subst e
  have := World.block_lt_of_cell? w _ c0
  rwa [add_block'] at this
theorem Kids.blk {w : World} {lo : Nat} {K : Option Addr} {ck : Nat} {ks : List Rex} (h : Kids w lo K ck ks) : ∀ a, K = some a → ks ≠ [] → a.block < w.heap.size := by
  intro a ha hs
  have hl : 0 < ks.length := List.length_pos_iff.2 hs
  obtain ⟨a', x, _, _, e, _, _, _, c0, _⟩ := h.at_ 0 hl
  rw [ha] at e
  injection e with e
  subst e
  have := World.block_lt_of_cell? w _ c0
  rwa [add_block'] at this
theorem RexV.rexp {w : World} {lo : Nat} {r : Rex} {v0 v1 v2 : Value} (h : RexV w lo r v0 v1 v2) : RexP w (fun b => b < w.heap.size) r v0 v1 v2 := by
  induction h with
  | mk k s ks A K c ck V0 V1 V2 hs hn hl hc hr ih =>
    have hk : Kids w lo K ck ks := ⟨⟨V0, V1, V2, hc, hr⟩, hn, hl⟩
    exact .mk k s ks A K c ck V0 V1 V2 (hs.lower (Nat.zero_le _)) hs.blk hn hl (fun i hi => (hc i hi).lower (Nat.zero_le _)) hk.blk ih
theorem Sps.keepAt {w w' : World} {A : Option Addr} {c : Nat} {s : List Sp} (h : Sps w 0 A c s) (hk : ∀ a, A = some a → s ≠ [] → w'.heap[a.block]? = w.heap[a.block]?) : Sps w' 0 A c s := by
  refine ⟨?_, h.cap, h.len⟩
  rcases h.row with h0 | ⟨a, e, hl, hc⟩
  · exact .inl h0
  · by_cases hs : s = []
    · left; rw [hs]; rfl
    · exact .inr ⟨a, e, hl, hc.keep fun _ => hk a e hs⟩
theorem KCell.keepAt {w w' : World} {K : Option Addr} {i : Nat} {u0 u1 u2 : Value} (h : KCell w 0 K i u0 u1 u2) (hk : ∀ a, K = some a → w'.heap[a.block]? = w.heap[a.block]?) : KCell w' 0 K i u0 u1 u2 := by
  obtain ⟨a, e, hl, h0, h1, h2⟩ := h.ex
  have hh := hk a e
  refine ⟨a, e, hl, ?_, ?_, ?_⟩
  · rw [World.cell?_of_block (w := w) (by rw [add_block']; exact hh)]; exact h0
  · rw [World.cell?_of_block (w := w) (by show w'.heap[(a.add (i * 3)).block]? = _; rw [add_block']; exact hh)]; exact h1
  · rw [World.cell?_of_block (w := w) (by show w'.heap[(a.add (i * 3)).block]? = _; rw [add_block']; exact hh)]; exact h2
theorem RexP.keep {w w' : World} {p : Nat → Prop} {r : Rex} {v0 v1 v2 : Value} (h : RexP w p r v0 v1 v2) (hk : ∀ b, p b → b < w.heap.size → w'.heap[b]? = w.heap[b]?) : RexP w' p r v0 v1 v2 := by
  induction h with
  | mk k s ks A K c ck V0 V1 V2 hs ps hn hl hc pk hr ih =>
    have hkk : Kids w 0 K ck ks := ⟨⟨V0, V1, V2, hc, fun i r e => (hr i r e).rexv⟩, hn, hl⟩
    refine .mk k s ks A K c ck V0 V1 V2 (hs.keepAt fun a e h => hk _ (ps a e h) (hs.blk a e h)) ps hn hl (fun i hi => (hc i hi).keepAt fun a e => ?_) pk ih
    have hne : ks ≠ [] := by rintro rfl; simp at hi
    exact hk _ (pk a e hne) (hkk.blk a e hne)
theorem RexP.mono {w : World} {p p' : Nat → Prop} {r : Rex} {v0 v1 v2 : Value} (h : RexP w p r v0 v1 v2) (hp : ∀ b, p b → p' b) : RexP w p' r v0 v1 v2 := by
  induction h with
  | mk k s ks A K c ck V0 V1 V2 hs ps hn hl hc pk hr ih => exact .mk k s ks A K c ck V0 V1 V2 hs (fun a e h => hp _ (ps a e h)) hn hl hc (fun a e h => hp _ (pk a e h)) ih
theorem RexP.under {w w' : World} {p : Nat → Prop} {r : Rex} {v0 v1 v2 : Value} (h : RexP w p r v0 v1 v2) (hb : Below w.heap.size w w') : RexP w' p r v0 v1 v2 := h.keep fun b _ hlt => hb.block b hlt
theorem RexP.lt {w : World} {p : Nat → Prop} {r : Rex} {v0 v1 v2 : Value} (h : RexP w p r v0 v1 v2) : RexP w (fun b => p b ∧ b < w.heap.size) r v0 v1 v2 := by
  induction h with
  | mk k s ks A K c ck V0 V1 V2 hs ps hn hl hc pk hr ih =>
    have hkk : Kids w 0 K ck ks := ⟨⟨V0, V1, V2, hc, fun i r e => (hr i r e).rexv⟩, hn, hl⟩
    exact .mk k s ks A K c ck V0 V1 V2 hs (fun a e h => ⟨ps a e h, hs.blk a e h⟩) hn hl hc (fun a e h => ⟨pk a e h, hkk.blk a e h⟩) ih
theorem RexV.rexp_lo {w : World} {lo : Nat} {r : Rex} {v0 v1 v2 : Value} (h : RexV w lo r v0 v1 v2) : RexP w (fun b => lo ≤ b) r v0 v1 v2 := by
  induction h with
  | mk k s ks A K c ck V0 V1 V2 hs hn hl hc hr ih =>
    refine .mk k s ks A K c ck V0 V1 V2 (hs.lower (Nat.zero_le _)) (fun a e hne => ?_) hn hl (fun i hi => (hc i hi).lower (Nat.zero_le _)) (fun a e hne => ?_) ih
    · rcases hs.row with h0 | ⟨a', e', hl', _⟩
      · have := congrArg List.length h0
        rw [spcs_length, List.length_nil] at this
        exact absurd (List.length_eq_zero_iff.1 (by omega)) hne
      · rw [e] at e'; injection e' with e'; subst e'; exact hl'
    · obtain ⟨a', e', hl', _⟩ := (hc 0 (List.length_pos_iff.2 hne)).ex
      rw [e] at e'; injection e' with e'; subst e'; exact hl'
theorem OwnT.rexp {w : World} {fp : List Nat} {r : Rex} {v1 v2 : Value} (h : OwnT w fp r v1 v2) {lo : Nat} (hf : ∀ b, b ∈ fp → lo ≤ b) : RexP w (fun b => lo ≤ b) r (.int .i64 r.kind) v1 v2 := (h.rexv lo hf).rexp_lo
theorem KidsP.at_ {w : World} {p : Nat → Prop} {K : Option Addr} {ck : Nat} {ks : List Rex} (h : KidsP w p K ck ks) (i : Nat) (hi : i < ks.length) :
    ∃ a r v1 v2, K = some a ∧ Hid (ks[i]? = some r) ∧ Hid (ks.drop i = r :: ks.drop (i + 1)) ∧ Hid (RexP w p r (.int .i64 r.kind) v1 v2) ∧
      w.cell? (a.add (i * 3)) = some (.int .i64 r.kind) ∧ w.cell? ⟨(a.add (i * 3)).block, (a.add (i * 3)).off + 1, none⟩ = some v1 ∧ w.cell? ⟨(a.add (i * 3)).block, (a.add (i * 3)).off + 2, none⟩ = some v2 := by
  obtain ⟨⟨V0, V1, V2, hc, hr⟩, h1, h2, h3⟩ := h
  obtain ⟨a, e, _, c0, c1, c2⟩ := (hc i hi).ex
  have hg : ks[i]? = some ks[i] := by simp [hi]
  have hv := hr i _ hg
  have e0 : V0 i = .int .i64 ks[i].kind := by
    obtain ⟨_, _, _, _, e, _⟩ := hv.parts
    exact e
  rw [e0] at hv c0
  exact ⟨a, ks[i], V1 i, V2 i, e, hg, List.drop_eq_getElem_cons hi, hv, c0, c1, c2⟩
theorem KidsP.one {w : World} {p : Nat → Prop} {K : Option Addr} {ck : Nat} {x : Rex} (h : KidsP w p K ck [x]) :
    ∃ a A c K' ck', K = some a ∧ RexP w p x (.int .i64 x.kind) (.slice A x.set.length c) (.slice K' x.kids.length ck') ∧ w.cell? a = some (.int .i64 x.kind) ∧ w.cell? ⟨a.block, a.off + 1, none⟩ = some (.slice A x.set.length c) ∧ w.cell? ⟨a.block, a.off + 2, none⟩ = some (.slice K' x.kids.length ck') := by
  obtain ⟨a, r, v1, v2, e, HX, _, HV, c0, c1, c2⟩ := h.at_ 0 (by simp)
  obtain rfl : x = r := by simpa using HX.out
  rw [show a.add (0 * 3) = a by simp [Addr.add]] at c0 c1 c2
  obtain ⟨A, c, K', ck', _, rfl, rfl, _⟩ := HV.out.parts
  exact ⟨a, A, c, K', ck', e, HV.out, c0, c1, c2⟩
theorem KidsP.two {w : World} {p : Nat → Prop} {K : Option Addr} {ck : Nat} {x y : Rex} (h : KidsP w p K ck [x, y]) :
    ∃ a A c K' ck' B d L' dk', K = some a ∧ RexP w p x (.int .i64 x.kind) (.slice A x.set.length c) (.slice K' x.kids.length ck') ∧ w.cell? a = some (.int .i64 x.kind) ∧ w.cell? ⟨a.block, a.off + 1, none⟩ = some (.slice A x.set.length c) ∧ w.cell? ⟨a.block, a.off + 2, none⟩ = some (.slice K' x.kids.length ck') ∧
      RexP w p y (.int .i64 y.kind) (.slice B y.set.length d) (.slice L' y.kids.length dk') ∧ w.cell? ⟨a.block, a.off + 3, none⟩ = some (.int .i64 y.kind) ∧ w.cell? ⟨a.block, a.off + 3 + 1, none⟩ = some (.slice B y.set.length d) ∧ w.cell? ⟨a.block, a.off + 3 + 2, none⟩ = some (.slice L' y.kids.length dk') := by
  obtain ⟨a, r, v1, v2, e, HX, _, HV, c0, c1, c2⟩ := h.at_ 0 (by simp)
  obtain ⟨a', r', u1, u2, e', HX', _, HV', c0', c1', c2'⟩ := h.at_ 1 (by simp)
  obtain rfl : x = r := by simpa using HX.out
  obtain rfl : y = r' := by simpa using HX'.out
  obtain rfl : a = a' := by rw [e] at e'; exact Option.some.inj e'
  rw [show a.add (0 * 3) = a by simp [Addr.add]] at c0 c1 c2
  rw [show a.add (1 * 3) = ⟨a.block, a.off + 3, none⟩ by simp [Addr.add]] at c0' c1' c2'
  obtain ⟨A, c, K', ck', _, rfl, rfl, _⟩ := HV.out.parts
  obtain ⟨B, d, L', dk', _, rfl, rfl, _⟩ := HV'.out.parts
  exact ⟨a, A, c, K', ck', B, d, L', dk', e, HV.out, c0, c1, c2, HV'.out, c0', c1', c2'⟩
theorem RexP.leaf {w : World} {p : Nat → Prop} (k : Int) : RexP w p (.mk k [] []) (.int .i64 k) nilS nilS :=
  RexP.of (A := none) (K := none) (c := 0) (ck := 0) ⟨⟨.inl rfl, Nat.le_refl _, by simp⟩, fun a e => by cases e⟩ ⟨⟨fun _ => undef, fun _ => undef, fun _ => undef, fun i h => by simp at h, fun i r h => by simp at h⟩, Nat.le_refl _, by simp, fun a e => by cases e⟩
/-- a row of one, of two, just made -/
theorem KidsP.mk1 {w : World} {p : Nat → Prop} {g : Nat} {x : Rex} {u1 u2 : Value} (hb : Blk w g #[.int .i64 x.kind, u1, u2] TRx) (hp : p g) (h : RexP w p x (.int .i64 x.kind) u1 u2) : KidsP w p (some ⟨g, 0, none⟩) 1 [x] := by
  refine ⟨⟨fun _ => .int .i64 x.kind, fun _ => u1, fun _ => u2, fun i hi => ?_, fun i r hi => ?_⟩, Nat.le_refl _, by simp [maxN], fun a e _ => by injection e with e; subst e; exact hp⟩
  · obtain rfl : i = 0 := by simpa using hi
    exact ⟨⟨g, 0, none⟩, rfl, Nat.zero_le _, (hb.cell 0).trans rfl, (hb.cell 1).trans rfl, (hb.cell 2).trans rfl⟩
  · obtain rfl : i = 0 := by have := (List.getElem?_eq_some_iff.1 hi).1; simpa using this
    simp at hi
    subst hi
    exact h
theorem KidsP.mk2 {w : World} {p : Nat → Prop} {g : Nat} {x y : Rex} {u1 u2 v1 v2 : Value} (hb : Blk w g #[.int .i64 x.kind, u1, u2, .int .i64 y.kind, v1, v2] TRx) (hp : p g) (h : RexP w p x (.int .i64 x.kind) u1 u2) (h' : RexP w p y (.int .i64 y.kind) v1 v2) : KidsP w p (some ⟨g, 0, none⟩) 2 [x, y] := by
  refine ⟨⟨fun i => .int .i64 (if i = 0 then x.kind else y.kind), fun i => if i = 0 then u1 else v1, fun i => if i = 0 then u2 else v2, fun i hi => ?_, fun i r hi => ?_⟩, Nat.le_refl _, by simp [maxN], fun a e _ => by injection e with e; subst e; exact hp⟩
  · match i, (show i < 2 from hi) with
    | 0, _ => exact ⟨⟨g, 0, none⟩, rfl, Nat.zero_le _, (hb.cell 0).trans rfl, (hb.cell 1).trans rfl, (hb.cell 2).trans rfl⟩
    | 1, _ => exact ⟨⟨g, 0, none⟩, rfl, Nat.zero_le _, (hb.cell 3).trans rfl, (hb.cell 4).trans rfl, (hb.cell 5).trans rfl⟩
  · match i, (show i < 2 from (List.getElem?_eq_some_iff.1 hi).1) with
    | 0, _ => simp at hi; subst hi; exact h
    | 1, _ => simp at hi; subst hi; exact h'

/-- what a function that gives a tree leaves -/
def RexPost (p : Nat → Prop) (t : Rex) (w : World) (e : Ending) (w' : World) : Prop :=
  ∃ A c K ck, e = .returned (.agg #[.int .i64 t.kind, .slice A t.set.length c, .slice K t.kids.length ck]) ∧ RexP w' (fun b => p b ∨ w.heap.size ≤ b) t (.int .i64 t.kind) (.slice A t.set.length c) (.slice K t.kids.length ck) ∧ Below w.heap.size w w'
theorem rex_fin {p : Nat → Prop} {t : Rex} {w wr w5 : World} {R : Nat} {A K : Option Addr} {n m c ck : Nat} (hn : n = t.set.length) (hm : m = t.kids.length) (hp : ∀ b, p b → b < w.heap.size) (hv : RexP wr (fun b => b ≠ R ∧ (p b ∨ w.heap.size ≤ b)) t (.int .i64 t.kind) (.slice A n c) (.slice K m ck)) (hb : Below w.heap.size w wr) (hg : wr.grownBy w5 (some R)) (hR : w.heap.size ≤ R) :
    RexPost p t w (.returned (.agg #[.int .i64 t.kind, .slice A n c, .slice K m ck])) w5 := by
  subst hn hm
  refine ⟨A, c, K, ck, rfl, ?_, hb.grown hg hb.size fun q hq => by injection hq with hq; omega⟩
  exact (hv.keep fun b ⟨hne, _⟩ hlt => hg.block b hlt fun e => by injection e with e; exact hne e).mono fun b h => h.2

end Go.Proofs.YtfeidjjabjejiaaGreatDoor

/- How many kids a kind has, of the reference and of the program. (Printed by wip/gen/kids.py.) -/
namespace Go.Proofs.YtfeidjjabjejiaaGreatDoor
set_option linter.unusedSimpArgs false
set_option linter.unusedVariables false
set_option maxRecDepth 100000
open Go.RowKit

theorem kids0 {k : Int} (h : k = 1 ∨ k = 2) : kidsOf k = 0 := by unfold kidsOf; rw [if_pos h]
theorem kids1 {k : Int} (h : k = 5 ∨ k = 7) : kidsOf k = 1 := by unfold kidsOf; rw [if_neg (by omega), if_pos h]
theorem kids2 {k : Int} (h : k = 3 ∨ k = 4 ∨ k = 6) : kidsOf k = 2 := by unfold kidsOf; rw [if_neg (by omega), if_neg (by omega), if_pos h]
theorem kidsN {k : Int} (h : ¬ (k = 1 ∨ k = 2 ∨ k = 3 ∨ k = 4 ∨ k = 5 ∨ k = 6 ∨ k = 7)) : kidsOf k = -1 := by unfold kidsOf; rw [if_neg (by omega), if_neg (by omega), if_neg (by omega)]

theorem sKids_c (k : Int) (w : World) : Calls Tryz.prog 131 #[.int .i64 k] w fun e w' => e = .returned (.int .i64 (kidsOf k)) ∧ w = w' := by
  by_cases e1 : k = 1
  · subst e1
    rw [kids0 (.inl rfl)]
    go_enter Tryz.func131, Tryz.ntmps131
    go_wp2
    go_ret
    exact ⟨rfl, rfl⟩
  have d1 : (k == 1) = false := by simp [e1]
  by_cases e2 : k = 2
  · subst e2
    rw [kids0 (.inr rfl)]
    go_enter Tryz.func131, Tryz.ntmps131
    go_wp2
    go_ret
    exact ⟨rfl, rfl⟩
  have d2 : (k == 2) = false := by simp [e2]
  by_cases e5 : k = 5
  · subst e5
    rw [kids1 (.inl rfl)]
    go_enter Tryz.func131, Tryz.ntmps131
    go_wp2
    go_ret
    exact ⟨rfl, rfl⟩
  have d5 : (k == 5) = false := by simp [e5]
  by_cases e7 : k = 7
  · subst e7
    rw [kids1 (.inr rfl)]
    go_enter Tryz.func131, Tryz.ntmps131
    go_wp2
    go_ret
    exact ⟨rfl, rfl⟩
  have d7 : (k == 7) = false := by simp [e7]
  by_cases e3 : k = 3
  · subst e3
    rw [kids2 (.inl rfl)]
    go_enter Tryz.func131, Tryz.ntmps131
    go_wp2
    go_ret
    exact ⟨rfl, rfl⟩
  have d3 : (k == 3) = false := by simp [e3]
  by_cases e4 : k = 4
  · subst e4
    rw [kids2 (.inr (.inl rfl))]
    go_enter Tryz.func131, Tryz.ntmps131
    go_wp2
    go_ret
    exact ⟨rfl, rfl⟩
  have d4 : (k == 4) = false := by simp [e4]
  by_cases e6 : k = 6
  · subst e6
    rw [kids2 (.inr (.inr rfl))]
    go_enter Tryz.func131, Tryz.ntmps131
    go_wp2
    go_ret
    exact ⟨rfl, rfl⟩
  have d6 : (k == 6) = false := by simp [e6]
  rw [kidsN (by omega)]
  go_enter Tryz.func131, Tryz.ntmps131
  go_wp2
  go_ret
  exact ⟨rfl, rfl⟩

theorem iKids_c (k : Int) (w : World) : Calls Tryz.prog 115 #[.int .i64 k] w fun e w' => e = .returned (.int .i64 (kidsOf k)) ∧ w = w' := by
  by_cases e1 : k = 1
  · subst e1
    rw [kids0 (.inl rfl)]
    go_enter Tryz.func115, Tryz.ntmps115
    go_wp2
    go_ret
    exact ⟨rfl, rfl⟩
  have d1 : (k == 1) = false := by simp [e1]
  by_cases e2 : k = 2
  · subst e2
    rw [kids0 (.inr rfl)]
    go_enter Tryz.func115, Tryz.ntmps115
    go_wp2
    go_ret
    exact ⟨rfl, rfl⟩
  have d2 : (k == 2) = false := by simp [e2]
  by_cases e5 : k = 5
  · subst e5
    rw [kids1 (.inl rfl)]
    go_enter Tryz.func115, Tryz.ntmps115
    go_wp2
    go_ret
    exact ⟨rfl, rfl⟩
  have d5 : (k == 5) = false := by simp [e5]
  by_cases e7 : k = 7
  · subst e7
    rw [kids1 (.inr rfl)]
    go_enter Tryz.func115, Tryz.ntmps115
    go_wp2
    go_ret
    exact ⟨rfl, rfl⟩
  have d7 : (k == 7) = false := by simp [e7]
  by_cases e3 : k = 3
  · subst e3
    rw [kids2 (.inl rfl)]
    go_enter Tryz.func115, Tryz.ntmps115
    go_wp2
    go_ret
    exact ⟨rfl, rfl⟩
  have d3 : (k == 3) = false := by simp [e3]
  by_cases e4 : k = 4
  · subst e4
    rw [kids2 (.inr (.inl rfl))]
    go_enter Tryz.func115, Tryz.ntmps115
    go_wp2
    go_ret
    exact ⟨rfl, rfl⟩
  have d4 : (k == 4) = false := by simp [e4]
  by_cases e6 : k = 6
  · subst e6
    rw [kids2 (.inr (.inr rfl))]
    go_enter Tryz.func115, Tryz.ntmps115
    go_wp2
    go_ret
    exact ⟨rfl, rfl⟩
  have d6 : (k == 6) = false := by simp [e6]
  rw [kidsN (by omega)]
  go_enter Tryz.func115, Tryz.ntmps115
  go_wp2
  go_ret
  exact ⟨rfl, rfl⟩

end Go.Proofs.YtfeidjjabjejiaaGreatDoor

/- A region that draws its order, reads, and calls what makes memory but answers alike in every world above: walked once. -/
namespace Go.Proofs.YtfeidjjabjejiaaGreatDoor
set_option linter.unusedSimpArgs false
set_option linter.unusedVariables false
set_option maxRecDepth 100000
open Go.RowKit

/-- the worlds that keep what is below -/
structure BW (w : World) : Type where
  w1 : World
  up : Below w.heap.size w w1
instance (w : World) : Nonempty (BW w) := ⟨⟨w, Below.refl _ _⟩⟩
theorem wp_region_bw {P : Program} {id : Nat} {Q : Exit → Act → World → Prop} {a : Act} {w : World} {l : List Oper} (hm : P.follows .mixedOrders = true) (hB : Region.lexB .any l.toArray = true)
    (h : wpQuiet P l.toArray (fun w' => ∃ x : BW w, w' = x.w1) (fun a' => ∀ w', (∃ x : BW w, w' = x.w1) → Q .normal a' w') l a) : (Code.region id l.toArray true).wp P Q a w :=
  wp_region_quiet (C := fun w' => ∃ x : BW w, w' = x.w1) hm hB ⟨⟨w.drew, below_drew (Below.refl _ _)⟩, rfl⟩ (by simpa using h)
theorem Calls.bw {P : Program} {f : FuncId} {args : Array Value} {W : World} {x : BW W} {v v' : Value} (hv : v = v') (h : Calls P f args x.w1 fun e w' => e = .returned v ∧ Below x.w1.heap.size x.w1 w') :
    Calls P f args x.w1 fun e w'' => e = .returned v' ∧ ∃ y : BW W, w'' = y.w1 :=
  h.mono fun _ w' ⟨he, hb⟩ => ⟨by rw [he, hv], ⟨w', below_then x.up hb⟩, rfl⟩
theorem Calls.bw_d {P : Program} {f : FuncId} {args : Array Value} {W : World} {x : BW W} {v v' : Value} (hv : v = v') (h : Calls P f args x.w1 fun e w' => e = .returned v ∧ Drawn x.w1 w') :
    Calls P f args x.w1 fun e w'' => e = .returned v' ∧ ∃ y : BW W, w'' = y.w1 :=
  h.mono fun _ w' ⟨he, hb⟩ => ⟨by rw [he, hv], ⟨w', below_then x.up hb.below⟩, rfl⟩
theorem Calls.bw_e {P : Program} {f : FuncId} {args : Array Value} {W : World} {x : BW W} {v v' : Value} (hv : v = v') (h : Calls P f args x.w1 fun e w' => e = .returned v ∧ x.w1 = w') :
    Calls P f args x.w1 fun e w'' => e = .returned v' ∧ ∃ y : BW W, w'' = y.w1 :=
  h.mono fun _ w' ⟨he, hb⟩ => ⟨by rw [he, hv], x, hb.symm⟩
theorem BW.cell {w : World} (x : BW w) {a : Addr} {u : Value} (h : w.cell? a = some u) : x.w1.cell? a = some u := (x.up.cell (World.block_lt_of_cell? w _ h)).trans h
theorem bv {a b : Bool} (h : a = b) : Value.bool a = Value.bool b := congrArg _ h
theorem iv {a b : Int} (h : a = b) : Value.int .i64 a = Value.int .i64 b := congrArg _ h

end Go.Proofs.YtfeidjjabjejiaaGreatDoor

/- Formed trees: the program's formed. -/
namespace Go.Proofs.YtfeidjjabjejiaaGreatDoor
set_option linter.unusedSimpArgs false
set_option linter.unusedVariables false
set_option maxRecDepth 100000
open Go.RowKit

def IFormOk (r : Rex) : Prop := ∀ (d : Nat) (v1 v2 : Value) (w : World) (lo : Nat), d ≤ 1000 → RexV w lo r (.int .i64 r.kind) v1 v2 →
  Calls Tryz.prog 63 #[.agg #[.int .i64 r.kind, v1, v2], .int .i64 d] w fun e w' => e = .returned (.bool (formed d r)) ∧ Below w.heap.size w w'

set_option maxHeartbeats 2000000 in
theorem iForm_c (r : Rex) : IFormOk r := by
  refine Rex.ind (p := IFormOk) (fun k s ks ih => ?_) r
  intro d v1 v2 w lo hd h
  obtain ⟨A, c, K, ck, _, rfl, rfl, hs, hk⟩ := h.parts
  dsimp only [Rex.kind, Rex.set, Rex.kids] at hs hk ⊢
  clear h
  have hlen := hk.len
  have hslen := hs.len
  unfold maxN at hlen hslen
  obtain ⟨wa, hwa⟩ : ∃ x, x = w.alloc (.cells #[.int .i64 k, .slice A s.length c, .slice K ks.length ck] 26) := ⟨_, rfl⟩
  have hb : Below w.heap.size w wa := by rw [hwa]; exact below_alloc (Below.refl _ _) _
  have m0 : Blk wa w.heap.size #[.int .i64 k, .slice A s.length c, .slice K ks.length ck] 26 := by rw [hwa]; exact blk_new w _ _
  have HB := Lib.hid hb
  have M0 := Lib.hid m0
  have HS := Lib.hid (hs.below hb)
  have HK := Lib.hid (hk.below hb)
  clear hb m0 hs hk
  have N0 : ∀ x : BW wa, x.w1.cell? ⟨w.heap.size, 0, none⟩ = some (.int .i64 k) := fun x => by rw [(M0.out.below x.up).cell]; rfl
  have N1 : ∀ x : BW wa, x.w1.cell? ⟨w.heap.size, 1, none⟩ = some (.slice A s.length c) := fun x => by rw [(M0.out.below x.up).cell]; rfl
  have N2 : ∀ x : BW wa, x.w1.cell? ⟨w.heap.size, 2, none⟩ = some (.slice K ks.length ck) := fun x => by rw [(M0.out.below x.up).cell]; rfl
  cases d with
  | zero =>
    go_enter Tryz.func63, Tryz.ntmps63
    go_wp2
    rw [← hwa]
    clear hwa
    refine wp_region_bw (by kernel_rfl) (by kernel_rfl) ?_
    repeat (go_big_quiet_step ((fail)))
    refine wpQuiet_nil ?_
    rintro _ ⟨⟨w1, b1⟩, rfl⟩
    go_wp2
    go_ret
    exact ⟨rfl, below_then HB.out b1⟩
  | succ d =>
    have D1 : decide ((d : Int) + 1 < 1) = false := by simp; omega
    by_cases h1 : kidsOf k = ks.length
    · have g1 : (kidsOf k != (ks.length : Int)) = false := by simp [h1]
      by_cases h3 : setOk s = true
      · by_cases h2 : k = 1
        · subst h2
          have NO : Hid (nodeOk (.mk 1 s ks) = true) := by show _ = _; simp [nodeOk, Rex.kind, Rex.kids, Rex.set, h1, h3]
          have H3 := Lib.hid h3
          clear h1 h3
          go_enter Tryz.func63, Tryz.ntmps63
          go_wp2
          rw [← hwa]
          clear hwa
          refine wp_region_bw (by kernel_rfl) (by kernel_rfl) ?_
          repeat (go_big_quiet_step ((first | (go_at_call 115; exact Calls.bw_e rfl (iKids_c _ _)) | (go_at_call 116; exact Calls.bw (bv H3.out) (iSetOk_c _ _ _ _ (HS.out.below (BW.up _)))))))
          refine wpQuiet_nil ?_
          rintro w1 ⟨x1, y1⟩
          have b1 : Below wa.heap.size wa w1 := y1 ▸ x1.up
          replace N2 := N2 ⟨w1, b1⟩
          dsimp only at N2
          clear y1 x1
          clear N0 N1
          have HB1 := Lib.hid b1
          clear b1
          go_wp2
          go_loopg [38] (ks.length) (fun n i wr => ∃ j : Nat, j + n = ks.length ∧ i = .int .i64 j ∧ Hid ((ks.drop j).all (formed d) = ks.all (formed d)) ∧ Hid (Below wa.heap.size wa wr))
          case atStart => exact ⟨0, by omega, rfl, by rw [List.drop_zero]; rfl, HB1⟩
          case round =>
            clear HB1 N2 g1
            obtain ⟨j, hj, rfl, HF, HW⟩ := hrel
            by_cases hlt : j < ks.length
            · obtain ⟨a, r, x1, x2, rfl, HX, HD, HV, c0, c1, c2⟩ := (HK.out.below HW.out).at_ j hlt
              obtain ⟨A1, d1, K1, e1, _, rfl, rfl, _⟩ := HV.out.parts
              have hmem := List.mem_of_getElem? HX.out
              have E2 : Hid ((ks.drop j).all (formed d) = (formed d r && (ks.drop (j + 1)).all (formed d))) := by show _ = _; rw [HD.out, List.all_cons]
              have hb2 := below_alloc (Below.refl wr.heap.size wr) (.cells #[.int .i64 r.kind, .slice A1 r.set.length d1, .slice K1 r.kids.length e1] 26)
              have HV2 := Lib.hid (HV.out.under hb2)
              have HW2 := Lib.hid (below_then HW.out hb2)
              clear hb2
              go_wp2_with fail
              refine (ih r hmem d _ _ _ _ (by omega) HV2.out).mono ?_
              rintro e w4 ⟨rfl, b4⟩
              have HW4 := Lib.hid (below_then HW2.out b4)
              clear b4 c0 c1 c2
              by_cases hf : formed d r = true
              · have HQ := Lib.hid hf
                rw [hf]
                clear hf
                go_wp2
                go_roundg (gk - 1)
                case rel => exact ⟨j + 1, by omega, by go_num, by have := HF.out; rw [E2.out, HQ.out] at this; exact this, HW4⟩
                case measure => omega
              · have HQ : Hid (formed d r = false) := by show _ = _; simpa using hf
                rw [HQ.out]
                clear hf
                go_wp2
                go_ret
                exact ⟨ret_bool (by rw [formed, NO.out]; show _ = ks.all (formed d); rw [← HF.out, E2.out, HQ.out]; rfl), below_then HB.out HW4.out⟩
            · go_wp2
              go_ret
              exact ⟨ret_bool (by rw [formed, NO.out]; show _ = ks.all (formed d); rw [← HF.out, List.drop_of_length_le (by omega)]; rfl), below_then HB.out HW.out⟩
        · have e2 : (k != 1) = true := by simp [h2]
          by_cases h4 : s = []
          · have e4 : decide (0 < s.length) = false := by simp [h4]
            have NO : Hid (nodeOk (.mk k s ks) = true) := by show _ = _; rw [h4] at h3 ⊢; simp [nodeOk, Rex.kind, Rex.kids, Rex.set, h1, h3]
            have H3 := Lib.hid h3
            clear h1 h3 h2 h4
            go_enter Tryz.func63, Tryz.ntmps63
            go_wp2
            rw [← hwa]
            clear hwa
            refine wp_region_bw (by kernel_rfl) (by kernel_rfl) ?_
            repeat (go_big_quiet_step ((first | (go_at_call 115; exact Calls.bw_e rfl (iKids_c _ _)) | (go_at_call 116; exact Calls.bw (bv H3.out) (iSetOk_c _ _ _ _ (HS.out.below (BW.up _)))))))
            refine wpQuiet_nil ?_
            rintro w1 ⟨x1, y1⟩
            have b1 : Below wa.heap.size wa w1 := y1 ▸ x1.up
            replace N2 := N2 ⟨w1, b1⟩
            dsimp only at N2
            clear y1 x1
            clear N0 N1
            have HB1 := Lib.hid b1
            clear b1
            go_wp2
            go_loopg [38] (ks.length) (fun n i wr => ∃ j : Nat, j + n = ks.length ∧ i = .int .i64 j ∧ Hid ((ks.drop j).all (formed d) = ks.all (formed d)) ∧ Hid (Below wa.heap.size wa wr))
            case atStart => exact ⟨0, by omega, rfl, by rw [List.drop_zero]; rfl, HB1⟩
            case round =>
              clear HB1 N2 g1
              obtain ⟨j, hj, rfl, HF, HW⟩ := hrel
              by_cases hlt : j < ks.length
              · obtain ⟨a, r, x1, x2, rfl, HX, HD, HV, c0, c1, c2⟩ := (HK.out.below HW.out).at_ j hlt
                obtain ⟨A1, d1, K1, e1, _, rfl, rfl, _⟩ := HV.out.parts
                have hmem := List.mem_of_getElem? HX.out
                have E2 : Hid ((ks.drop j).all (formed d) = (formed d r && (ks.drop (j + 1)).all (formed d))) := by show _ = _; rw [HD.out, List.all_cons]
                have hb2 := below_alloc (Below.refl wr.heap.size wr) (.cells #[.int .i64 r.kind, .slice A1 r.set.length d1, .slice K1 r.kids.length e1] 26)
                have HV2 := Lib.hid (HV.out.under hb2)
                have HW2 := Lib.hid (below_then HW.out hb2)
                clear hb2
                go_wp2_with fail
                refine (ih r hmem d _ _ _ _ (by omega) HV2.out).mono ?_
                rintro e w4 ⟨rfl, b4⟩
                have HW4 := Lib.hid (below_then HW2.out b4)
                clear b4 c0 c1 c2
                by_cases hf : formed d r = true
                · have HQ := Lib.hid hf
                  rw [hf]
                  clear hf
                  go_wp2
                  go_roundg (gk - 1)
                  case rel => exact ⟨j + 1, by omega, by go_num, by have := HF.out; rw [E2.out, HQ.out] at this; exact this, HW4⟩
                  case measure => omega
                · have HQ : Hid (formed d r = false) := by show _ = _; simpa using hf
                  rw [HQ.out]
                  clear hf
                  go_wp2
                  go_ret
                  exact ⟨ret_bool (by rw [formed, NO.out]; show _ = ks.all (formed d); rw [← HF.out, E2.out, HQ.out]; rfl), below_then HB.out HW4.out⟩
              · go_wp2
                go_ret
                exact ⟨ret_bool (by rw [formed, NO.out]; show _ = ks.all (formed d); rw [← HF.out, List.drop_of_length_le (by omega)]; rfl), below_then HB.out HW.out⟩
          · have hl : 0 < s.length := by cases s; exact absurd rfl h4; simp
            have e4 : decide (0 < s.length) = true := decide_eq_true (by omega)
            have NO : Hid (nodeOk (.mk k s ks) = false) := by show _ = _; cases s; exact absurd rfl h4; simp [nodeOk, Rex.kind, Rex.kids, Rex.set, h2]
            clear h1 h3 h2 h4 hl
            go_enter Tryz.func63, Tryz.ntmps63
            go_wp2
            rw [← hwa]
            clear hwa
            refine wp_region_bw (by kernel_rfl) (by kernel_rfl) ?_
            repeat (go_big_quiet_step ((first | (go_at_call 115; exact Calls.bw_e rfl (iKids_c _ _)) | (go_at_call 116; exact Calls.bw (bv H3.out) (iSetOk_c _ _ _ _ (HS.out.below (BW.up _)))))))
            refine wpQuiet_nil ?_
            rintro w1 ⟨x1, y1⟩
            have b1 : Below wa.heap.size wa w1 := y1 ▸ x1.up
            replace N2 := N2 ⟨w1, b1⟩
            dsimp only at N2
            clear y1 x1
            clear N0 N1
            go_wp2
            go_ret
            exact ⟨ret_bool (by rw [formed, NO.out]; rfl), below_then HB.out b1⟩
      · replace h3 : setOk s = false := by simpa using h3
        have NO : Hid (nodeOk (.mk k s ks) = false) := by show _ = _; simp [nodeOk, Rex.set, h3]
        by_cases h2 : k = 1
        · subst h2
          have H3 := Lib.hid h3
          clear h1 h3
          go_enter Tryz.func63, Tryz.ntmps63
          go_wp2
          rw [← hwa]
          clear hwa
          refine wp_region_bw (by kernel_rfl) (by kernel_rfl) ?_
          repeat (go_big_quiet_step ((first | (go_at_call 115; exact Calls.bw_e rfl (iKids_c _ _)) | (go_at_call 116; exact Calls.bw (bv H3.out) (iSetOk_c _ _ _ _ (HS.out.below (BW.up _)))))))
          refine wpQuiet_nil ?_
          rintro w1 ⟨x1, y1⟩
          have b1 : Below wa.heap.size wa w1 := y1 ▸ x1.up
          replace N2 := N2 ⟨w1, b1⟩
          dsimp only at N2
          clear y1 x1
          clear N0 N1
          go_wp2
          go_ret
          exact ⟨ret_bool (by rw [formed, NO.out]; rfl), below_then HB.out b1⟩
        · have e2 : (k != 1) = true := by simp [h2]
          by_cases h4 : s = []
          · subst h4
            simp [setOk, setOkGo] at h3
          · have hl : 0 < s.length := by cases s; exact absurd rfl h4; simp
            have e4 : decide (0 < s.length) = true := decide_eq_true (by omega)
            clear h1 h3 h2 h4 hl
            go_enter Tryz.func63, Tryz.ntmps63
            go_wp2
            rw [← hwa]
            clear hwa
            refine wp_region_bw (by kernel_rfl) (by kernel_rfl) ?_
            repeat (go_big_quiet_step ((first | (go_at_call 115; exact Calls.bw_e rfl (iKids_c _ _)) | (go_at_call 116; exact Calls.bw (bv H3.out) (iSetOk_c _ _ _ _ (HS.out.below (BW.up _)))))))
            refine wpQuiet_nil ?_
            rintro w1 ⟨x1, y1⟩
            have b1 : Below wa.heap.size wa w1 := y1 ▸ x1.up
            replace N2 := N2 ⟨w1, b1⟩
            dsimp only at N2
            clear y1 x1
            clear N0 N1
            go_wp2
            go_ret
            exact ⟨ret_bool (by rw [formed, NO.out]; rfl), below_then HB.out b1⟩
    · have g1 : (kidsOf k != (ks.length : Int)) = true := by simp [h1]
      have NO : Hid (nodeOk (.mk k s ks) = false) := by show _ = _; simp [nodeOk, Rex.kind, Rex.kids, h1]
      clear h1
      go_enter Tryz.func63, Tryz.ntmps63
      go_wp2
      rw [← hwa]
      clear hwa
      refine wp_region_bw (by kernel_rfl) (by kernel_rfl) ?_
      repeat (go_big_quiet_step ((first | (go_at_call 115; exact Calls.bw_e rfl (iKids_c _ _)) | (go_at_call 116; exact Calls.bw (bv H3.out) (iSetOk_c _ _ _ _ (HS.out.below (BW.up _)))))))
      refine wpQuiet_nil ?_
      rintro w1 ⟨x1, y1⟩
      have b1 : Below wa.heap.size wa w1 := y1 ▸ x1.up
      replace N2 := N2 ⟨w1, b1⟩
      dsimp only at N2
      clear y1 x1
      clear N0 N1
      go_wp2
      go_ret
      exact ⟨ret_bool (by rw [formed, NO.out]; rfl), below_then HB.out b1⟩

end Go.Proofs.YtfeidjjabjejiaaGreatDoor

/- Formed trees: the reference's l2Form. -/
namespace Go.Proofs.YtfeidjjabjejiaaGreatDoor
set_option linter.unusedSimpArgs false
set_option linter.unusedVariables false
set_option maxRecDepth 100000
open Go.RowKit

def SFormOk (r : Rex) : Prop := ∀ (d : Nat) (v1 v2 : Value) (w : World) (lo : Nat), d ≤ 1000 → RexV w lo r (.int .i64 r.kind) v1 v2 →
  Calls Tryz.prog 86 #[.agg #[.int .i64 r.kind, v1, v2], .int .i64 d] w fun e w' => e = .returned (.bool (formed d r)) ∧ Below w.heap.size w w'

set_option maxHeartbeats 2000000 in
theorem sForm_c (r : Rex) : SFormOk r := by
  refine Rex.ind (p := SFormOk) (fun k s ks ih => ?_) r
  intro d v1 v2 w lo hd h
  obtain ⟨A, c, K, ck, _, rfl, rfl, hs, hk⟩ := h.parts
  dsimp only [Rex.kind, Rex.set, Rex.kids] at hs hk ⊢
  clear h
  have hlen := hk.len
  have hslen := hs.len
  unfold maxN at hlen hslen
  obtain ⟨wa, hwa⟩ : ∃ x, x = w.alloc (.cells #[.int .i64 k, .slice A s.length c, .slice K ks.length ck] 26) := ⟨_, rfl⟩
  have hb : Below w.heap.size w wa := by rw [hwa]; exact below_alloc (Below.refl _ _) _
  have m0 : Blk wa w.heap.size #[.int .i64 k, .slice A s.length c, .slice K ks.length ck] 26 := by rw [hwa]; exact blk_new w _ _
  have HB := Lib.hid hb
  have M0 := Lib.hid m0
  have HS := Lib.hid (hs.below hb)
  have HK := Lib.hid (hk.below hb)
  clear hb m0 hs hk
  have N0 : ∀ x : BW wa, x.w1.cell? ⟨w.heap.size, 0, none⟩ = some (.int .i64 k) := fun x => by rw [(M0.out.below x.up).cell]; rfl
  have N1 : ∀ x : BW wa, x.w1.cell? ⟨w.heap.size, 1, none⟩ = some (.slice A s.length c) := fun x => by rw [(M0.out.below x.up).cell]; rfl
  have N2 : ∀ x : BW wa, x.w1.cell? ⟨w.heap.size, 2, none⟩ = some (.slice K ks.length ck) := fun x => by rw [(M0.out.below x.up).cell]; rfl
  cases d with
  | zero =>
    go_enter Tryz.func86, Tryz.ntmps86
    go_wp2
    rw [← hwa]
    clear hwa
    refine wp_region_bw (by kernel_rfl) (by kernel_rfl) ?_
    repeat (go_big_quiet_step ((fail)))
    refine wpQuiet_nil ?_
    rintro _ ⟨⟨w1, b1⟩, rfl⟩
    go_wp2
    go_ret
    exact ⟨rfl, below_then HB.out b1⟩
  | succ d =>
    have D1 : decide ((d : Int) + 1 < 1) = false := by simp; omega
    by_cases h1 : kidsOf k = ks.length
    · have g1 : (kidsOf k != (ks.length : Int)) = false := by simp [h1]
      by_cases h3 : setOk s = true
      · by_cases h2 : k = 1
        · subst h2
          have NO : Hid (nodeOk (.mk 1 s ks) = true) := by show _ = _; simp [nodeOk, Rex.kind, Rex.kids, Rex.set, h1, h3]
          have H3 := Lib.hid h3
          clear h1 h3
          go_enter Tryz.func86, Tryz.ntmps86
          go_wp2
          rw [← hwa]
          clear hwa
          refine wp_region_bw (by kernel_rfl) (by kernel_rfl) ?_
          repeat (go_big_quiet_step ((first | (go_at_call 131; exact Calls.bw_e rfl (sKids_c _ _)) | (go_at_call 132; exact Calls.bw_d (bv H3.out) (sSetOk_c _ _ _ _ (HS.out.below (BW.up _)))))))
          refine wpQuiet_nil ?_
          rintro w1 ⟨x1, y1⟩
          have b1 : Below wa.heap.size wa w1 := y1 ▸ x1.up
          replace N2 := N2 ⟨w1, b1⟩
          dsimp only at N2
          clear y1 x1
          clear N0 N1
          have HB1 := Lib.hid b1
          clear b1
          go_wp2
          go_loopg [5] (ks.length) (fun n i wr => ∃ j : Nat, j + n = ks.length ∧ i = .int .i64 j ∧ Hid ((ks.drop j).all (formed d) = ks.all (formed d)) ∧ Hid (Below wa.heap.size wa wr))
          case atStart => exact ⟨0, by omega, rfl, by rw [List.drop_zero]; rfl, HB1⟩
          case round =>
            clear HB1 N2 g1
            obtain ⟨j, hj, rfl, HF, HW⟩ := hrel
            have n2 : wr.cell? ⟨w.heap.size, 2, none⟩ = some (.slice K ks.length ck) := by rw [(M0.out.below HW.out).cell]; rfl
            by_cases hlt : j < ks.length
            · obtain ⟨a, r, x1, x2, rfl, HX, HD, HV, c0, c1, c2⟩ := (HK.out.below HW.out).at_ j hlt
              have hmem := List.mem_of_getElem? HX.out
              have E2 : Hid ((ks.drop j).all (formed d) = (formed d r && (ks.drop (j + 1)).all (formed d))) := by show _ = _; rw [HD.out, List.all_cons]
              go_wp2_with fail
              refine (ih r hmem d _ _ _ _ (by omega) HV.out).mono ?_
              rintro e w4 ⟨rfl, b4⟩
              have HW4 := Lib.hid (below_then HW.out b4)
              clear b4 c0 c1 c2 n2
              by_cases hf : formed d r = true
              · have HQ := Lib.hid hf
                rw [hf]
                clear hf
                go_wp2
                go_roundg (gk - 1)
                case rel => exact ⟨j + 1, by omega, by go_num, by have := HF.out; rw [E2.out, HQ.out] at this; exact this, HW4⟩
                case measure => omega
              · have HQ : Hid (formed d r = false) := by show _ = _; simpa using hf
                rw [HQ.out]
                clear hf
                go_wp2
                go_ret
                exact ⟨ret_bool (by rw [formed, NO.out]; show _ = ks.all (formed d); rw [← HF.out, E2.out, HQ.out]; rfl), below_then HB.out HW4.out⟩
            · go_wp2
              go_ret
              exact ⟨ret_bool (by rw [formed, NO.out]; show _ = ks.all (formed d); rw [← HF.out, List.drop_of_length_le (by omega)]; rfl), below_then HB.out HW.out⟩
        · have e2 : (k != 1) = true := by simp [h2]
          by_cases h4 : s = []
          · have e4 : decide (0 < s.length) = false := by simp [h4]
            have NO : Hid (nodeOk (.mk k s ks) = true) := by show _ = _; rw [h4] at h3 ⊢; simp [nodeOk, Rex.kind, Rex.kids, Rex.set, h1, h3]
            have H3 := Lib.hid h3
            clear h1 h3 h2 h4
            go_enter Tryz.func86, Tryz.ntmps86
            go_wp2
            rw [← hwa]
            clear hwa
            refine wp_region_bw (by kernel_rfl) (by kernel_rfl) ?_
            repeat (go_big_quiet_step ((first | (go_at_call 131; exact Calls.bw_e rfl (sKids_c _ _)) | (go_at_call 132; exact Calls.bw_d (bv H3.out) (sSetOk_c _ _ _ _ (HS.out.below (BW.up _)))))))
            refine wpQuiet_nil ?_
            rintro w1 ⟨x1, y1⟩
            have b1 : Below wa.heap.size wa w1 := y1 ▸ x1.up
            replace N2 := N2 ⟨w1, b1⟩
            dsimp only at N2
            clear y1 x1
            clear N0 N1
            have HB1 := Lib.hid b1
            clear b1
            go_wp2
            go_loopg [5] (ks.length) (fun n i wr => ∃ j : Nat, j + n = ks.length ∧ i = .int .i64 j ∧ Hid ((ks.drop j).all (formed d) = ks.all (formed d)) ∧ Hid (Below wa.heap.size wa wr))
            case atStart => exact ⟨0, by omega, rfl, by rw [List.drop_zero]; rfl, HB1⟩
            case round =>
              clear HB1 N2 g1
              obtain ⟨j, hj, rfl, HF, HW⟩ := hrel
              have n2 : wr.cell? ⟨w.heap.size, 2, none⟩ = some (.slice K ks.length ck) := by rw [(M0.out.below HW.out).cell]; rfl
              by_cases hlt : j < ks.length
              · obtain ⟨a, r, x1, x2, rfl, HX, HD, HV, c0, c1, c2⟩ := (HK.out.below HW.out).at_ j hlt
                have hmem := List.mem_of_getElem? HX.out
                have E2 : Hid ((ks.drop j).all (formed d) = (formed d r && (ks.drop (j + 1)).all (formed d))) := by show _ = _; rw [HD.out, List.all_cons]
                go_wp2_with fail
                refine (ih r hmem d _ _ _ _ (by omega) HV.out).mono ?_
                rintro e w4 ⟨rfl, b4⟩
                have HW4 := Lib.hid (below_then HW.out b4)
                clear b4 c0 c1 c2 n2
                by_cases hf : formed d r = true
                · have HQ := Lib.hid hf
                  rw [hf]
                  clear hf
                  go_wp2
                  go_roundg (gk - 1)
                  case rel => exact ⟨j + 1, by omega, by go_num, by have := HF.out; rw [E2.out, HQ.out] at this; exact this, HW4⟩
                  case measure => omega
                · have HQ : Hid (formed d r = false) := by show _ = _; simpa using hf
                  rw [HQ.out]
                  clear hf
                  go_wp2
                  go_ret
                  exact ⟨ret_bool (by rw [formed, NO.out]; show _ = ks.all (formed d); rw [← HF.out, E2.out, HQ.out]; rfl), below_then HB.out HW4.out⟩
              · go_wp2
                go_ret
                exact ⟨ret_bool (by rw [formed, NO.out]; show _ = ks.all (formed d); rw [← HF.out, List.drop_of_length_le (by omega)]; rfl), below_then HB.out HW.out⟩
          · have hl : 0 < s.length := by cases s; exact absurd rfl h4; simp
            have e4 : decide (0 < s.length) = true := decide_eq_true (by omega)
            have NO : Hid (nodeOk (.mk k s ks) = false) := by show _ = _; cases s; exact absurd rfl h4; simp [nodeOk, Rex.kind, Rex.kids, Rex.set, h2]
            clear h1 h3 h2 h4 hl
            go_enter Tryz.func86, Tryz.ntmps86
            go_wp2
            rw [← hwa]
            clear hwa
            refine wp_region_bw (by kernel_rfl) (by kernel_rfl) ?_
            repeat (go_big_quiet_step ((first | (go_at_call 131; exact Calls.bw_e rfl (sKids_c _ _)) | (go_at_call 132; exact Calls.bw_d (bv H3.out) (sSetOk_c _ _ _ _ (HS.out.below (BW.up _)))))))
            refine wpQuiet_nil ?_
            rintro w1 ⟨x1, y1⟩
            have b1 : Below wa.heap.size wa w1 := y1 ▸ x1.up
            replace N2 := N2 ⟨w1, b1⟩
            dsimp only at N2
            clear y1 x1
            clear N0 N1
            go_wp2
            go_ret
            exact ⟨ret_bool (by rw [formed, NO.out]; rfl), below_then HB.out b1⟩
      · replace h3 : setOk s = false := by simpa using h3
        have NO : Hid (nodeOk (.mk k s ks) = false) := by show _ = _; simp [nodeOk, Rex.set, h3]
        by_cases h2 : k = 1
        · subst h2
          have H3 := Lib.hid h3
          clear h1 h3
          go_enter Tryz.func86, Tryz.ntmps86
          go_wp2
          rw [← hwa]
          clear hwa
          refine wp_region_bw (by kernel_rfl) (by kernel_rfl) ?_
          repeat (go_big_quiet_step ((first | (go_at_call 131; exact Calls.bw_e rfl (sKids_c _ _)) | (go_at_call 132; exact Calls.bw_d (bv H3.out) (sSetOk_c _ _ _ _ (HS.out.below (BW.up _)))))))
          refine wpQuiet_nil ?_
          rintro w1 ⟨x1, y1⟩
          have b1 : Below wa.heap.size wa w1 := y1 ▸ x1.up
          replace N2 := N2 ⟨w1, b1⟩
          dsimp only at N2
          clear y1 x1
          clear N0 N1
          go_wp2
          go_ret
          exact ⟨ret_bool (by rw [formed, NO.out]; rfl), below_then HB.out b1⟩
        · have e2 : (k != 1) = true := by simp [h2]
          by_cases h4 : s = []
          · subst h4
            simp [setOk, setOkGo] at h3
          · have hl : 0 < s.length := by cases s; exact absurd rfl h4; simp
            have e4 : decide (0 < s.length) = true := decide_eq_true (by omega)
            clear h1 h3 h2 h4 hl
            go_enter Tryz.func86, Tryz.ntmps86
            go_wp2
            rw [← hwa]
            clear hwa
            refine wp_region_bw (by kernel_rfl) (by kernel_rfl) ?_
            repeat (go_big_quiet_step ((first | (go_at_call 131; exact Calls.bw_e rfl (sKids_c _ _)) | (go_at_call 132; exact Calls.bw_d (bv H3.out) (sSetOk_c _ _ _ _ (HS.out.below (BW.up _)))))))
            refine wpQuiet_nil ?_
            rintro w1 ⟨x1, y1⟩
            have b1 : Below wa.heap.size wa w1 := y1 ▸ x1.up
            replace N2 := N2 ⟨w1, b1⟩
            dsimp only at N2
            clear y1 x1
            clear N0 N1
            go_wp2
            go_ret
            exact ⟨ret_bool (by rw [formed, NO.out]; rfl), below_then HB.out b1⟩
    · have g1 : (kidsOf k != (ks.length : Int)) = true := by simp [h1]
      have NO : Hid (nodeOk (.mk k s ks) = false) := by show _ = _; simp [nodeOk, Rex.kind, Rex.kids, h1]
      clear h1
      go_enter Tryz.func86, Tryz.ntmps86
      go_wp2
      rw [← hwa]
      clear hwa
      refine wp_region_bw (by kernel_rfl) (by kernel_rfl) ?_
      repeat (go_big_quiet_step ((first | (go_at_call 131; exact Calls.bw_e rfl (sKids_c _ _)) | (go_at_call 132; exact Calls.bw_d (bv H3.out) (sSetOk_c _ _ _ _ (HS.out.below (BW.up _)))))))
      refine wpQuiet_nil ?_
      rintro w1 ⟨x1, y1⟩
      have b1 : Below wa.heap.size wa w1 := y1 ▸ x1.up
      replace N2 := N2 ⟨w1, b1⟩
      dsimp only at N2
      clear y1 x1
      clear N0 N1
      go_wp2
      go_ret
      exact ⟨ret_bool (by rw [formed, NO.out]; rfl), below_then HB.out b1⟩

end Go.Proofs.YtfeidjjabjejiaaGreatDoor

/- How many parts a tree has: the program's manyParts. -/
namespace Go.Proofs.YtfeidjjabjejiaaGreatDoor
set_option linter.unusedSimpArgs false
set_option linter.unusedVariables false
set_option maxRecDepth 100000
open Go.RowKit

theorem many_size (r : Rex) : r.many ≤ r.size + 1 := by
  refine Rex.rec (motive_1 := fun r => r.many ≤ r.size + 1) (motive_2 := fun l => manyL l ≤ sizeL l + l.length) ?_ ?_ ?_ r
  · intro k s ks ih
    rw [Rex.many, Rex.size]
    omega
  · simp [manyL]
  · intro x xs h1 h2
    rw [manyL, sizeL, List.length_cons]
    omega
theorem manyL_size (l : List Rex) : manyL l ≤ sizeL l + l.length := by
  induction l with
  | nil => simp [manyL]
  | cons x xs ih =>
    have := many_size x
    rw [manyL, sizeL, List.length_cons]
    omega
theorem sizeL_kid {ks : List Rex} {r : Rex} (h : r ∈ ks) : r.size ≤ sizeL ks := by
  induction ks with
  | nil => cases h
  | cons x xs ih =>
    rw [sizeL]
    rcases List.mem_cons.1 h with rfl | h
    · omega
    · have := ih h; omega
def ManyOk (r : Rex) : Prop := ∀ (v1 v2 : Value) (w : World) (lo : Nat), RexV w lo r (.int .i64 r.kind) v1 v2 → r.size ≤ 1048576 →
  Calls Tryz.prog 64 #[.agg #[.int .i64 r.kind, v1, v2]] w fun e w' => e = .returned (.int .i64 r.many) ∧ Below w.heap.size w w'

set_option maxHeartbeats 2000000 in
theorem iMany_c (r : Rex) : ManyOk r := by
  refine Rex.ind (p := ManyOk) (fun k s ks ih => ?_) r
  intro v1 v2 w lo h hsz
  obtain ⟨A, c, K, ck, _, rfl, rfl, hs, hk⟩ := h.parts
  dsimp only [Rex.kind, Rex.set, Rex.kids] at hs hk ⊢
  rw [Rex.size] at hsz
  clear h
  have hlen := hk.len
  have hml := manyL_size ks
  have hb := below_alloc (Below.refl w.heap.size w) (.cells #[.int .i64 k, .slice A s.length c, .slice K ks.length ck] 26)
  have HB := Lib.hid hb
  have HK := Lib.hid hk
  clear hb hk
  go_enter Tryz.func64, Tryz.ntmps64
  go_wp2
  go_loopg [3, 9] (ks.length) (fun n m i wr => ∃ j : Nat, j + n = ks.length ∧ i = .int .i64 j ∧ ∃ x : Nat, m = .int .i64 x ∧ Hid (x + manyL (ks.drop j) = 1 + manyL ks) ∧ Hid (Below w.heap.size w wr))
  case atStart => exact ⟨0, by omega, rfl, 1, rfl, by rw [List.drop_zero]; rfl, HB⟩
  case round =>
    clear HB
    obtain ⟨j, hj, rfl, x, rfl, HM, HB⟩ := hrel
    by_cases hlt : j < ks.length
    · obtain ⟨a, r, x1, x2, rfl, HX, HD, HV, c0, c1, c2⟩ := (HK.out.below HB.out).at_ j hlt
      obtain ⟨A1, d1, K1, e1, _, rfl, rfl, _⟩ := HV.out.parts
      have hmem := List.mem_of_getElem? HX.out
      have hks := sizeL_kid hmem
      have E2 : Hid (manyL (ks.drop j) = r.many + manyL (ks.drop (j + 1))) := by show _ = _; rw [HD.out, manyL]
      have hx : x + r.many ≤ 1 + manyL ks := by have := HM.out; have := E2.out; omega
      have hb2 := below_alloc (Below.refl wr.heap.size wr) (.cells #[.int .i64 r.kind, .slice A1 r.set.length d1, .slice K1 r.kids.length e1] 26)
      have HV2 := Lib.hid (HV.out.under hb2)
      have HB2 := Lib.hid (below_then HB.out hb2)
      clear hb2
      go_wp2_with fail
      refine (ih r hmem _ _ _ _ HV2.out (by omega)).mono ?_
      rintro e w4 ⟨rfl, b4⟩
      have HB4 := Lib.hid (below_then HB2.out b4)
      clear b4 c0 c1 c2
      go_wp2
      go_roundg (gk - 1)
      case rel => exact ⟨j + 1, by omega, by go_num, x + r.many, by go_num, by have := HM.out; have := E2.out; show _ = _; omega, HB4⟩
      case measure => omega
    · go_wp2
      go_ret
      refine ⟨ret_int ?_, HB.out⟩
      have := HM.out
      rw [List.drop_of_length_le (by omega), manyL] at this
      rw [Rex.many]
      omega

end Go.Proofs.YtfeidjjabjejiaaGreatDoor

/- How many parts a tree has: the reference's l2Many. -/
namespace Go.Proofs.YtfeidjjabjejiaaGreatDoor
set_option linter.unusedSimpArgs false
set_option linter.unusedVariables false
set_option maxRecDepth 100000
open Go.RowKit

mutual
/-- the parts down to a depth -/
def Rex.manyTo : Rex → Nat → Nat
  | .mk _ _ _, 0 => 1
  | .mk _ _ ks, d + 1 => 1 + manyToL ks d
def manyToL : List Rex → Nat → Nat
  | [], _ => 0
  | r :: rs, d => r.manyTo d + manyToL rs d
end
theorem manyTo_le (r : Rex) : ∀ d, r.manyTo d ≤ r.many := by
  refine Rex.rec (motive_1 := fun r => ∀ d, r.manyTo d ≤ r.many) (motive_2 := fun l => ∀ d, manyToL l d ≤ manyL l) ?_ ?_ ?_ r
  · intro k s ks ih d
    cases d with
    | zero => rw [Rex.manyTo, Rex.many]; omega
    | succ d => have := ih d; rw [Rex.manyTo, Rex.many]; omega
  · intro d; simp [manyToL]
  · intro x xs h1 h2 d
    have := h1 d
    have := h2 d
    rw [manyToL, manyL]
    omega
theorem manyToL_le (l : List Rex) (d : Nat) : manyToL l d ≤ manyL l := by
  induction l with
  | nil => simp [manyToL]
  | cons x xs ih => have := manyTo_le x d; rw [manyToL, manyL]; omega
def ManyToOk (r : Rex) : Prop := ∀ (d : Nat) (v1 v2 : Value) (w : World) (lo : Nat), d ≤ 1000 → RexV w lo r (.int .i64 r.kind) v1 v2 → r.size ≤ 1048576 →
  Calls Tryz.prog 87 #[.agg #[.int .i64 r.kind, v1, v2], .int .i64 d] w fun e w' => e = .returned (.int .i64 (r.manyTo d)) ∧ Below w.heap.size w w'

set_option maxHeartbeats 2000000 in
theorem sMany_c (r : Rex) : ManyToOk r := by
  refine Rex.ind (p := ManyToOk) (fun k s ks ih => ?_) r
  intro d v1 v2 w lo hd h hsz
  obtain ⟨A, c, K, ck, _, rfl, rfl, hs, hk⟩ := h.parts
  dsimp only [Rex.kind, Rex.set, Rex.kids] at hs hk ⊢
  rw [Rex.size] at hsz
  clear h
  have hlen := hk.len
  have hml := manyL_size ks
  have hb := below_alloc (Below.refl w.heap.size w) (.cells #[.int .i64 k, .slice A s.length c, .slice K ks.length ck] 26)
  have hX := blk_new w #[.int .i64 k, .slice A s.length c, .slice K ks.length ck] 26
  have HB := Lib.hid hb
  have HK := Lib.hid hk
  have HX := Lib.hid hX
  clear hb hk hX
  go_enter Tryz.func87, Tryz.ntmps87
  go_wp2
  go_loopg [5, 6] (ks.length) (fun n m i wr => ∃ j : Nat, j + n = ks.length ∧ i = .int .i64 j ∧ ∃ x : Nat, m = .int .i64 x ∧ Hid (x + (match d with | 0 => 0 | d + 1 => manyToL (ks.drop j) d) = Rex.manyTo (.mk k s ks) d) ∧ Hid (Blk wr w.heap.size #[.int .i64 k, .slice A s.length c, .slice K ks.length ck] 26) ∧ Hid (Below w.heap.size w wr))
  case atStart =>
    refine ⟨0, by omega, rfl, 1, rfl, ?_, HX, HB⟩
    show _ = _
    cases d with
    | zero => rfl
    | succ d => rw [List.drop_zero, Rex.manyTo]
  case round =>
    clear HB HX
    obtain ⟨j, hj, rfl, x, rfl, HM, HX, HB⟩ := hrel
    have n2 : wr.cell? ⟨w.heap.size, 2, none⟩ = some (.slice K ks.length ck) := by rw [HX.out.cell]; rfl
    by_cases hlt : j < ks.length
    · have t1 : decide (j < ks.length) = true := decide_eq_true hlt
      cases d with
      | zero =>
        go_wp2
        go_ret
        exact ⟨ret_int (by have := HM.out; simp at this; omega), HB.out⟩
      | succ d =>
        obtain ⟨a, r, x1, x2, rfl, HE, HD, HV, c0, c1, c2⟩ := (HK.out.below HB.out).at_ j hlt
        have hmem := List.mem_of_getElem? HE.out
        have hks := sizeL_kid hmem
        have E2 : Hid (manyToL (ks.drop j) d = r.manyTo d + manyToL (ks.drop (j + 1)) d) := by show _ = _; rw [HD.out, manyToL]
        have HT := Lib.hid (manyTo_le (.mk k s ks) (d + 1))
        have hx : x + r.manyTo d ≤ 1 + manyL ks := by
          have h1 := HM.out
          have h2 := E2.out
          have h3 := HT.out
          rw [Rex.many] at h3
          simp only at h1
          omega
        have t2 : (0 : Int) < ((d + 1 : Nat) : Int) := by omega
        go_wp2_with fail
        refine (ih r hmem d _ _ _ _ (by omega) HV.out (by omega)).mono ?_
        rintro e w4 ⟨rfl, b4⟩
        have HB4 := Lib.hid (below_then HB.out b4)
        have HX4 := Lib.hid (HX.out.below b4)
        clear b4 c0 c1 c2 n2
        go_wp2
        go_roundg (gk - 1)
        case rel =>
          refine ⟨j + 1, by omega, by go_num, x + r.manyTo d, by go_num, ?_, HX4, HB4⟩
          show _ = _
          have h1 := HM.out
          have h2 := E2.out
          omega
        case measure => omega
    · go_wp2
      go_ret
      refine ⟨ret_int ?_, HB.out⟩
      have := HM.out
      cases d with
      | zero => simp at this; omega
      | succ d => simp only [List.drop_of_length_le (show ks.length ≤ j by omega), manyToL] at this; omega

end Go.Proofs.YtfeidjjabjejiaaGreatDoor

/- What is formed to a depth has no parts below it. -/
namespace Go.Proofs.YtfeidjjabjejiaaGreatDoor

theorem manyToL_eq {d : Nat} {l : List Rex} (h : ∀ r, r ∈ l → r.manyTo d = r.many) : manyToL l d = manyL l := by
  induction l with
  | nil => rfl
  | cons x xs ih => rw [manyToL, manyL, h x (by simp), ih fun r hr => h r (by simp [hr])]
theorem formed_many (d : Nat) : ∀ r, formed d r = true → r.manyTo d = r.many := by
  induction d with
  | zero => intro r h; simp [formed] at h
  | succ d ih =>
    intro r h
    obtain ⟨k, s, ks⟩ := r
    rw [formed, Bool.and_eq_true, List.all_eq_true] at h
    have e : manyToL ks d = manyL ks := manyToL_eq fun r hr => ih r (h.2 r hr)
    rw [Rex.manyTo, Rex.many, e]

end Go.Proofs.YtfeidjjabjejiaaGreatDoor
