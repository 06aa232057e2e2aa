/- Trees that a call made: each row in a block of its own. -/
import Derived.Test.YtlchipjckgaclaaDoorT1
import Derived.Test.YtlchipjckgaclaaDoorW3
import Derived.Test.YtlchipjckgaclaaDoorBlk
namespace Go.Proofs.YtlchipjckgaclaaDoor
set_option linter.unusedSimpArgs false
set_option linter.unusedVariables false
set_option maxRecDepth 100000
open Go.RowKit

abbrev TRx : Nat := 36
abbrev nilS : Value := .slice none 0 0
/-- the block of a row -/
def vblk (v : Value) : List Nat := match v.ownBlock with
  | some g => [g]
  | none => []
theorem mem_vblk {v : Value} {g : Nat} : g ∈ vblk v ↔ v.ownBlock = some g := by
  unfold vblk
  split <;> simp_all
  exact eq_comm
theorem vblk_nil : vblk nilS = [] := rfl
theorem vblk_some (g n c : Nat) : vblk (.slice (some ⟨g, 0, none⟩) n c) = [g] := rfl

structure KInfo where
  fp : List Nat
  v1 : Value
  v2 : Value
def kcell (r : Rex) (x : KInfo) : List Value := [.int .i64 r.kind, x.v1, x.v2]
def kcells : List Rex → List KInfo → List Value
  | r :: rs, x :: xs => kcell r x ++ kcells rs xs
  | _, _ => []
def fps (L : List KInfo) : List Nat := L.flatMap (·.fp)
theorem fps_append (L M : List KInfo) : fps (L ++ M) = fps L ++ fps M := by simp [fps]
theorem fps_cons (x : KInfo) (L : List KInfo) : fps (x :: L) = x.fp ++ fps L := by simp [fps]
theorem kcells_length : ∀ (rs : List Rex) (L : List KInfo), rs.length = L.length → (kcells rs L).length = rs.length * 3
  | [], [], _ => rfl
  | r :: rs, x :: L, h => by
    simp only [kcells, kcell, List.length_append, List.length_cons, List.length_nil]
    rw [kcells_length rs L (by simpa using h)]
    omega
theorem kcells_append : ∀ (rs : List Rex) (L : List KInfo) (r : Rex) (x : KInfo), rs.length = L.length → kcells (rs ++ [r]) (L ++ [x]) = kcells rs L ++ [.int .i64 r.kind, x.v1, x.v2]
  | [], [], r, x, _ => by simp [kcells, kcell]
  | r' :: rs, x' :: L, r, x, h => by
    have := kcells_append rs L r x (by simpa using h)
    simp only [List.cons_append, kcells, this, List.append_assoc]
theorem kcells_get : ∀ (rs : List Rex) (L : List KInfo) (i : Nat) (r : Rex) (x : KInfo), rs[i]? = some r → L[i]? = some x → rs.length = L.length →
    (kcells rs L)[i * 3]? = some (.int .i64 r.kind) ∧ (kcells rs L)[i * 3 + 1]? = some x.v1 ∧ (kcells rs L)[i * 3 + 2]? = some x.v2
  | [], _, i, r, x, h, _, _ => by simp at h
  | r' :: rs, [], i, r, x, _, h, _ => by simp at h
  | r' :: rs, x' :: L, 0, r, x, h1, h2, hl => by
    simp at h1 h2
    subst h1 h2
    simp [kcells, kcell]
  | r' :: rs, x' :: L, i + 1, r, x, h1, h2, hl => by
    have := kcells_get rs L i r x (by simpa using h1) (by simpa using h2) (by simpa using hl)
    rw [show (i + 1) * 3 = i * 3 + 3 by omega]
    simpa [kcells, kcell] using this

inductive OwnT (w : World) : List Nat → Rex → Value → Value → Prop
  | mk (k : Int) (s : List Sp) (ks : List Rex) (v1 v2 : Value) (L : List KInfo) (hL : ks.length = L.length) (hs : OwnSp w 0 v1 s) (hk : w.ownsRow 0 TRx 3 v2 ks.length (kcells ks L)) (hn : ks.length ≤ maxN)
      (hr : ∀ (i : Nat) (r : Rex) (x : KInfo), ks[i]? = some r → L[i]? = some x → OwnT w x.fp r x.v1 x.v2) (nd : (vblk v1 ++ (vblk v2 ++ fps L)).Nodup) : OwnT w (vblk v1 ++ (vblk v2 ++ fps L)) (.mk k s ks) v1 v2

/-- a row of trees that a call made -/
structure OwnK (w : World) (fp : List Nat) (ks : List Rex) (v2 : Value) (L : List KInfo) : Prop where
  hL : ks.length = L.length
  hk : w.ownsRow 0 TRx 3 v2 ks.length (kcells ks L)
  hn : ks.length ≤ maxN
  hr : ∀ (i : Nat) (r : Rex) (x : KInfo), ks[i]? = some r → L[i]? = some x → OwnT w x.fp r x.v1 x.v2
  fe : fp = vblk v2 ++ fps L
  nd : fp.Nodup
theorem OwnT.parts {w : World} {fp : List Nat} {r : Rex} {v1 v2 : Value} (h : OwnT w fp r v1 v2) :
    ∃ L fk, fp = vblk v1 ++ fk ∧ fp.Nodup ∧ OwnSp w 0 v1 r.set ∧ OwnK w fk r.kids v2 L := by
  cases h with
  | mk k s ks _ _ L hL hs hk hn hr nd => exact ⟨L, _, rfl, nd, hs, hL, hk, hn, hr, rfl, (List.nodup_append.1 nd).2.1⟩
theorem OwnT.of {w : World} {fk : List Nat} {k : Int} {s : List Sp} {ks : List Rex} {v1 v2 : Value} {L : List KInfo} (hs : OwnSp w 0 v1 s) (hk : OwnK w fk ks v2 L) (nd : (vblk v1 ++ fk).Nodup) : OwnT w (vblk v1 ++ fk) (.mk k s ks) v1 v2 := by
  obtain ⟨hL, hk, hn, hr, fe, _⟩ := hk
  subst fe
  exact .mk k s ks v1 v2 L hL hs hk hn hr nd

theorem OwnSp.lt {w : World} {base : Nat} {v : Value} {xs : List Sp} (h : OwnSp w base v xs) : ∀ b, b ∈ vblk v → base ≤ b ∧ b < w.heap.size := fun b hb => h.own.lt b (mem_vblk.1 hb)
theorem mem_fps {L : List KInfo} {b : Nat} : b ∈ fps L ↔ ∃ (i : Nat) (x : KInfo), L[i]? = some x ∧ b ∈ x.fp := by
  unfold fps
  rw [List.mem_flatMap]
  constructor
  · rintro ⟨x, hx, hb⟩
    obtain ⟨i, hi⟩ := List.getElem?_of_mem hx
    exact ⟨i, x, hi, hb⟩
  · rintro ⟨i, x, hi, hb⟩
    exact ⟨x, List.mem_of_getElem? hi, hb⟩
theorem OwnT.lt {w : World} {fp : List Nat} {r : Rex} {v1 v2 : Value} (h : OwnT w fp r v1 v2) : ∀ b, b ∈ fp → b < w.heap.size := by
  induction h with
  | mk k s ks v1 v2 L hL hs hk hn hr nd ih =>
    intro b hb
    rcases List.mem_append.1 hb with hb | hb
    · exact (hs.lt b hb).2
    · rcases List.mem_append.1 hb with hb | hb
      · exact (hk.lt b (mem_vblk.1 hb)).2
      · obtain ⟨i, x, hx, hb⟩ := mem_fps.1 hb
        have hi := (List.getElem?_eq_some_iff.1 hx).1
        exact ih i (ks[i]'(by omega)) x (List.getElem?_eq_getElem _) hx b hb
theorem OwnK.lt {w : World} {fp : List Nat} {ks : List Rex} {v2 : Value} {L : List KInfo} (h : OwnK w fp ks v2 L) : ∀ b, b ∈ fp → b < w.heap.size := by
  intro b hb
  rw [h.fe] at hb
  rcases List.mem_append.1 hb with hb | hb
  · exact (h.hk.lt b (mem_vblk.1 hb)).2
  · obtain ⟨i, x, hx, hb⟩ := mem_fps.1 hb
    have hi := (List.getElem?_eq_some_iff.1 hx).1
    have hL := h.hL
    exact (h.hr i (ks[i]'(by omega)) x (List.getElem?_eq_getElem _) hx).lt b hb
/-- it stays where its blocks stay -/
theorem OwnSp.stay {w w1 : World} {base : Nat} {v : Value} {xs : List Sp} (h : OwnSp w base v xs) (hm : ∀ b, b ∈ vblk v → w1.heap[b]? = w.heap[b]?) : OwnSp w1 base v xs := ⟨own_move h.own fun k hk => hm k (mem_vblk.2 hk), h.len⟩
theorem OwnT.stay {w w' : World} {fp : List Nat} {r : Rex} {v1 v2 : Value} (h : OwnT w fp r v1 v2) (hm : ∀ b, b ∈ fp → w'.heap[b]? = w.heap[b]?) : OwnT w' fp r v1 v2 := by
  induction h with
  | mk k s ks v1 v2 L hL hs hk hn hr nd ih =>
    refine .mk k s ks v1 v2 L hL (hs.stay fun b hb => hm b (by simp [hb])) (own_move hk fun g hg => hm g (by simp [mem_vblk.2 hg])) hn (fun i r x hi hx => ih i r x hi hx fun b hb => hm b ?_) nd
    have := mem_fps.2 ⟨i, x, hx, hb⟩
    simp [this]
theorem OwnK.stay {w w' : World} {fp : List Nat} {ks : List Rex} {v2 : Value} {L : List KInfo} (h : OwnK w fp ks v2 L) (hm : ∀ b, b ∈ fp → w'.heap[b]? = w.heap[b]?) : OwnK w' fp ks v2 L := by
  obtain ⟨hL, hk, hn, hr, fe, nd⟩ := h
  refine ⟨hL, own_move hk fun g hg => hm g (by simp [fe, mem_vblk.2 hg]), hn, fun i r x hi hx => (hr i r x hi hx).stay fun b hb => hm b ?_, fe, nd⟩
  have := mem_fps.2 ⟨i, x, hx, hb⟩
  simp [fe, this]
theorem OwnT.under {w w' : World} {fp : List Nat} {r : Rex} {v1 v2 : Value} (h : OwnT w fp r v1 v2) (hb : Below w.heap.size w w') : OwnT w' fp r v1 v2 := h.stay fun b hf => hb.block b (h.lt b hf)
theorem OwnK.under {w w' : World} {fp : List Nat} {ks : List Rex} {v2 : Value} {L : List KInfo} (h : OwnK w fp ks v2 L) (hb : Below w.heap.size w w') : OwnK w' fp ks v2 L := h.stay fun b hf => hb.block b (h.lt b hf)

/-- what is owned is read -/
theorem OwnT.rexv {w : World} {fp : List Nat} {r : Rex} {v1 v2 : Value} (h : OwnT w fp r v1 v2) : ∀ lo, (∀ b, b ∈ fp → lo ≤ b) → RexV w lo r (.int .i64 r.kind) v1 v2 := by
  induction h with
  | mk k s ks v1 v2 L hL hs hk hn hr nd ih =>
    intro lo hlo
    have hs' : OwnSp w lo v1 s := by
      refine ⟨?_, hs.len⟩
      obtain ⟨h1, h2⟩ := hs.own
      refine ⟨h1, h2.imp id ?_⟩
      rintro ⟨g, cap, cur, rfl, hg, r⟩
      exact ⟨g, cap, cur, rfl, hlo g (by simp [vblk_some]), r⟩
    obtain ⟨A, c, rfl, sp⟩ := hs'.sps
    have hk' : w.ownsRow lo TRx 3 v2 ks.length (kcells ks L) := by
      obtain ⟨h1, h2⟩ := hk
      refine ⟨h1, h2.imp id ?_⟩
      rintro ⟨g, cap, cur, rfl, hg, r⟩
      exact ⟨g, cap, cur, rfl, hlo g (by simp [vblk_some]), r⟩
    obtain ⟨K, ck, rfl, hck, hrow⟩ := own_row hk'
    refine .mk k s ks A K c ck (fun i => .int .i64 (ks.getD i default).kind) (fun i => (L.getD i ⟨[], undef, undef⟩).v1) (fun i => (L.getD i ⟨[], undef, undef⟩).v2) sp hck hn (fun i hi => ?_) (fun i r hi => ?_)
    · have e1 : ks[i]? = some (ks.getD i default) := by simp [List.getD_eq_getElem?_getD, hi]
      have e2 : L[i]? = some (L.getD i ⟨[], undef, undef⟩) := by simp [List.getD_eq_getElem?_getD, show i < L.length by omega]
      obtain ⟨g0, g1, g2⟩ := kcells_get ks L i _ _ e1 e2 hL
      rcases hrow with h0 | ⟨a, rfl, ha, hc⟩
      · rw [h0] at g0; simp at g0
      · exact ⟨a, rfl, ha, hc _ _ g0, by rw [← add_field _ _ 1 (by omega)]; exact hc _ _ g1, by rw [← add_field _ _ 2 (by omega)]; exact hc _ _ g2⟩
    · have hi' := (List.getElem?_eq_some_iff.1 hi).1
      have e1 : ks.getD i default = r := by simp [List.getD_eq_getElem?_getD, hi]
      have e2 : L[i]? = some (L.getD i ⟨[], undef, undef⟩) := by simp [List.getD_eq_getElem?_getD, show i < L.length by omega]
      show RexV w lo r (.int .i64 (ks.getD i default).kind) _ _
      rw [e1]
      exact ih i r _ hi e2 lo fun b hb => hlo b (by have := mem_fps.2 ⟨i, _, e2, hb⟩; simp [this])
theorem OwnT.rex0 {w : World} {fp : List Nat} {r : Rex} {v1 v2 : Value} (h : OwnT w fp r v1 v2) : RexV w 0 r (.int .i64 r.kind) v1 v2 := h.rexv 0 fun _ _ => Nat.zero_le _
theorem OwnK.empty {w : World} : OwnK w [] [] nilS [] := ⟨rfl, World.ownsRow_nil _ _ _ _, by simp, fun i r x h => by simp at h, rfl, List.nodup_nil⟩

/-- all blocks but some are as they were -/
structure Touch (fp : List Nat) (w w' : World) : Prop where
  os : w'.os = w.os
  tape : w'.tape = w.tape
  output : w'.output = w.output
  size : w.heap.size ≤ w'.heap.size
  block : ∀ k, k < w.heap.size → k ∉ fp → w'.heap[k]? = w.heap[k]?
theorem Touch.refl (fp : List Nat) (w : World) : Touch fp w w := ⟨rfl, rfl, rfl, Nat.le_refl _, fun _ _ _ => rfl⟩
theorem Touch.trans {fp : List Nat} {w w' w'' : World} (h : Touch fp w w') (k : Touch fp w' w'') : Touch fp w w'' :=
  ⟨k.os.trans h.os, k.tape.trans h.tape, k.output.trans h.output, Nat.le_trans h.size k.size, fun i hi hf => (k.block i (Nat.lt_of_lt_of_le hi h.size) hf).trans (h.block i hi hf)⟩
theorem Touch.wide {fp fp' : List Nat} {w w' : World} (h : Touch fp w w') (hs : ∀ b, b ∈ fp → b ∈ fp') : Touch fp' w w' := ⟨h.os, h.tape, h.output, h.size, fun k hk hf => h.block k hk fun h2 => hf (hs k h2)⟩
theorem Touch.of_below {fp : List Nat} {w w' : World} (h : Below w.heap.size w w') : Touch fp w w' := ⟨h.os, h.tape, h.output, h.size, fun k hk _ => h.block k hk⟩
theorem Touch.of_grown {v : Value} {w w' : World} (h : w.grownBy w' v.ownBlock) : Touch (vblk v) w w' := ⟨h.os, h.tape, h.output, h.size, fun k hk hf => h.block k hk fun e => hf (mem_vblk.2 e.symm)⟩
theorem Touch.set {fp : List Nat} {w w' : World} (h : Touch fp w w') {p : Addr} (hp : p.block ∈ fp) (u : Value) : Touch fp w (w'.setCell p u) :=
  ⟨h.os, h.tape, h.output, by rw [World.size_setCell]; exact h.size, fun k hk hf => (Below.heap_setCell w' p u k (fun e => hf (e ▸ hp))).trans (h.block k hk hf)⟩
theorem Touch.below {fp : List Nat} {w w' : World} (h : Touch fp w w') {n : Nat} (hf : ∀ b, b ∈ fp → n ≤ b) (hn : n ≤ w.heap.size) : Below n w w' := ⟨h.os, h.tape, h.output, h.size, fun k hk => h.block k (by omega) fun h2 => by have := hf k h2; omega⟩
theorem Touch.rex {fp : List Nat} {w w' w0 : World} {lo : Nat} {r : Rex} {v0 v1 v2 : Value} (h : Touch fp w w') (hv : RexV w lo r v0 v1 v2) (hf : ∀ b, b ∈ fp → b < lo) : RexV w' lo r v0 v1 v2 :=
  hv.keep fun k hl hk => h.block k hk fun h2 => by have := hf k h2; omega

end Go.Proofs.YtlchipjckgaclaaDoor
