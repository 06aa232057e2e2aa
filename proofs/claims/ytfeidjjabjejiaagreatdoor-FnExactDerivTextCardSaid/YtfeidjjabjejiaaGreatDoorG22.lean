/- Texts joined for the claims: C2 N3 Yi Args Bytes TreeArgs. -/
import Derived.Test.YtfeidjjabjejiaaGreatDoorG5
import Derived.Test.YtfeidjjabjejiaaGreatDoorG8
import Derived.Deep.DeepCutAuto
import Derived.Test.YtfeidjjabjejiaaGreatDoorG21
import Derived.Test.YtfeidjjabjejiaaGreatDoorG4
import Derived.Test.YtfeidjjabjejiaaGreatDoorG2
import Derived.ProofKit
import Derived.OpenShut
import Derived.ShutString
import Derived.ChangeOld
import Derived.SizedLaws
import Derived.Deep.SlicePairs
import Derived.ChangeSlices
import Derived.Test.YtfeidjjabjejiaaGreatDoorG1
/- l2Copy: a tree in new memory, by the reference. -/
namespace Go.Proofs.YtfeidjjabjejiaaGreatDoor
set_option linter.unusedSimpArgs false
set_option linter.unusedVariables false
set_option maxRecDepth 100000
open Go.RowKit

abbrev E0 : Obj := .cells #[] TSp (0, 0)
theorem own_e (w : World) {lo : Nat} (h : lo ≤ w.heap.size) : (w.alloc E0).ownsRow lo TSp 2 (.slice (some ⟨w.heap.size, 0, none⟩) 0 0) 0 [] :=
  ⟨rfl, .inr ⟨w.heap.size, 0, #[], rfl, h, heap_alloc_new w _, Nat.le_refl _, by unfold maxLen; omega, rfl, rfl⟩⟩
theorem vblk_of_some' {g n c : Nat} : vblk (.slice (some ⟨g, 0, none⟩) n c) = [g] := rfl
theorem hv2 {vS : Value} {n H g : Nat} (hat : ∀ b, b ∈ vblk vS → b ∈ vblk (.slice (some ⟨n, 0, none⟩) 0 0) ∨ b = H) (h1 : g ≠ n) (h2 : g ≠ H) : g ∉ vblk vS := fun h => by
  rcases hat g h with e | e
  · rw [vblk_of_some'] at e; simp at e; exact h1 e
  · exact h2 e
/-- what the first statement leaves -/
structure LitMid (wb wx : World) (g : Nat) (k : Int) (s : List Sp) (vS : Value) : Prop where
  blk : Blk wx g #[.int .i64 k, vS, nilS] TRx
  set : OwnSp wx wb.heap.size vS s
  bel : Below wb.heap.size wb wx
  gS : g ∉ vblk vS
  gl : wb.heap.size ≤ g
def LitMidP (wb : World) (k : Int) (s : List Sp) (v : Value) (wx : World) : Prop := ∃ g vS, v = .pointer (some ⟨g, 0, none⟩) ∧ LitMid wb wx g k s vS

theorem lit1 {wa wB : World} {k : Int} {s : List Sp} {vS : Value} (hl : s.length ≤ maxN) (OS : wB.ownsRow wa.heap.size TSp 2 vS s.length (spcs s)) (BS : Below wa.heap.size wa wB) :
    LitMidP wa k s (.pointer (some ⟨wB.heap.size, 0, none⟩)) (wB.alloc (.cells #[.int .i64 k, vS, nilS] TRx (0, 0))) := by
  have e1 := own_vlt OS
  refine ⟨_, vS, rfl, blk_new _ _ _, ⟨own_below OS (below_alloc (Below.refl _ _) _), hl⟩, below_alloc BS _, fun h => ?_, BS.size⟩
  have := e1 _ h; omega
theorem lit2 {wa wB : World} {k : Int} {s : List Sp} {vS : Value} {g : Nat} (hl : s.length ≤ maxN) (OS : wB.ownsRow wa.heap.size TSp 2 vS s.length (spcs s)) (BS : Below wa.heap.size wa wB) (hZ : Blk wB g #[.int .i64 0, nilS, nilS] TRx) (hg : wa.heap.size ≤ g) (hv : g ∉ vblk vS) :
    LitMidP wa k s (.pointer (some ⟨g, 0, none⟩)) (((wB.setCell ⟨g, 0, none⟩ (.int .i64 k)).setCell ⟨g, 1, none⟩ vS).setCell ⟨g, 2, none⟩ nilS) := by
  have far : ∀ b, b ≠ g → (((wB.setCell ⟨g, 0, none⟩ (.int .i64 k)).setCell ⟨g, 1, none⟩ vS).setCell ⟨g, 2, none⟩ nilS).heap[b]? = wB.heap[b]? := fun b hb =>
    (Below.heap_setCell _ _ _ _ hb).trans ((Below.heap_setCell _ _ _ _ hb).trans (Below.heap_setCell _ _ _ _ hb))
  exact ⟨g, vS, rfl, by simpa using ((hZ.set 0 (.int .i64 k)).set 1 vS).set 2 nilS, ⟨own_move OS fun b h => far b (fun e => hv (e ▸ mem_vblk.2 h)), hl⟩, below_set (below_set (below_set BS hg _) hg _) hg _, hv, hg⟩

/-- a row of trees that grows -/
structure KApp (w : World) (lo : Nat) (ks : List Rex) (j : Nat) (v : Value) (L : List KInfo) : Prop where
  own : w.ownsRow lo TRx 3 v j (kcells (ks.take j) L)
  len : L.length = j
  le : j ≤ ks.length
  hr : ∀ (i : Nat) (r : Rex) (x : KInfo), ks[i]? = some r → L[i]? = some x → OwnT w x.fp r x.v1 x.v2
  nd : (vblk v ++ fps L).Nodup
  lo : ∀ b, b ∈ vblk v ++ fps L → lo ≤ b
theorem KApp.first (w : World) (lo : Nat) (ks : List Rex) : KApp w lo ks 0 nilS [] :=
  ⟨by simpa [kcells] using World.ownsRow_nil w lo TRx 3, rfl, Nat.zero_le _, fun i r x _ h => by simp at h, by simp [fps, vblk_nil], fun b hb => by simp [fps, vblk_nil] at hb⟩
theorem vblk_nodup (v : Value) : (vblk v).Nodup := by unfold vblk; split <;> simp
theorem KApp.lt {w : World} {lo : Nat} {ks : List Rex} {j : Nat} {v : Value} {L : List KInfo} (h : KApp w lo ks j v L) : ∀ b, b ∈ vblk v ++ fps L → b < w.heap.size := by
  intro b hb
  rcases List.mem_append.1 hb with hb | hb
  · exact (own_vlt h.own b hb).2
  · obtain ⟨i, x, hx, hb⟩ := mem_fps.1 hb
    have hi := (List.getElem?_eq_some_iff.1 hx).1
    have hl := h.len
    have hle := h.le
    exact (h.hr i (ks[i]'(by omega)) x (List.getElem?_eq_getElem _) hx).lt b hb
theorem KApp.snoc {wr wD wE : World} {lo : Nat} {ks : List Rex} {j : Nat} {v v' : Value} {L : List KInfo} {r : Rex} {fp : List Nat} {v1 v2 : Value} {O : Obj} {g o : Nat} {u : Value} (h : KApp wr lo ks j v L) (hr : ks[j]? = some r) (b2 : Below wr.heap.size wr wD)
    (ho : OwnT wD fp r v1 v2) (hf : ∀ b, b ∈ fp → wr.heap.size ≤ b) (hn : fp.Nodup) (he : wE.ownsRow lo TRx 3 v' (j + 1) (kcells (ks.take j) L ++ [.int .i64 r.kind, v1, v2])) (hg : (wD.alloc O).grownBy wE v.ownBlock)
    (hat : ∀ b, b ∈ vblk v' → b ∈ vblk v ∨ b = (wD.alloc O).heap.size) (hgl : g < lo) (hlo : lo ≤ wr.heap.size) : KApp (wE.setCell ⟨g, o, none⟩ u) lo ks (j + 1) v' (L ++ [⟨fp, v1, v2⟩]) := by
  have hj := (List.getElem?_eq_some_iff.1 hr).1
  have hlen := h.len
  have hlt := h.lt
  obtain ⟨n1, n2, n3⟩ := List.nodup_append.1 h.nd
  have hz : (wD.alloc O).heap.size = wD.heap.size + 1 := by simp
  rw [hz] at hat
  have hzD := b2.size
  have stay : ∀ b, b < wD.heap.size → b ∉ vblk v → b ≠ g → (wE.setCell ⟨g, o, none⟩ u).heap[b]? = wD.heap[b]? := fun b hb hv hbg =>
    (Below.heap_setCell _ _ _ _ hbg).trans ((hg.block b (by rw [hz]; omega) fun e => hv (mem_vblk.2 e.symm)).trans ((below_alloc (Below.refl wD.heap.size wD) O).block b hb))
  refine ⟨?_, by simp [hlen], hj, ?_, ?_, ?_⟩
  · have e : kcells (ks.take (j + 1)) (L ++ [⟨fp, v1, v2⟩]) = kcells (ks.take j) L ++ [.int .i64 r.kind, v1, v2] := by
      rw [List.take_add_one, hr]
      exact kcells_append _ _ _ ⟨fp, v1, v2⟩ (by rw [List.length_take]; omega)
    rw [e]
    exact own_move he fun b hb => Below.heap_setCell _ _ _ _ (fun e => by have := (own_vlt he b (mem_vblk.2 hb)).1; have e' : b = g := e; omega)
  · intro i r' x hi hx
    by_cases e : i < L.length
    · rw [List.getElem?_append_left e] at hx
      have hT := h.hr i r' x hi hx
      refine (hT.under b2).stay fun b hb => stay b (Nat.lt_of_lt_of_le (hT.lt b hb) hzD) (fun hv => n3 b hv b (mem_fps.2 ⟨i, x, hx, hb⟩) rfl) fun eg => ?_
      have := h.lo b (by simp [mem_fps.2 ⟨i, x, hx, hb⟩])
      omega
    · have e2 : i = L.length := by
        have := (List.getElem?_eq_some_iff.1 hx).1
        simp at this
        omega
      subst e2
      rw [hlen, hr] at hi
      obtain rfl := Option.some.inj hi
      simp at hx
      subst hx
      refine ho.stay fun b hb => stay b (ho.lt b hb) (fun hv => ?_) fun eg => ?_
      · have := (own_vlt h.own b hv).2; have := hf b hb; omega
      · have := hf b hb; omega
  · have e : fps (L ++ [⟨fp, v1, v2⟩]) = fps L ++ fp := by rw [fps_append]; simp [fps]
    rw [e]
    refine List.nodup_append.2 ⟨vblk_nodup _, List.nodup_append.2 ⟨n2, hn, fun a ha b hb eq => ?_⟩, fun a ha b hb eq => ?_⟩
    · have := hlt a (by simp [ha]); have := hf b hb; omega
    · subst eq
      rcases hat a ha with hv | hv
      · rcases List.mem_append.1 hb with hb | hb
        · exact n3 a hv a hb rfl
        · have := (own_vlt h.own a hv).2; have := hf a hb; omega
      · rcases List.mem_append.1 hb with hb | hb
        · have := hlt a (by simp [hb]); omega
        · have := ho.lt a hb; omega
  · have e : fps (L ++ [⟨fp, v1, v2⟩]) = fps L ++ fp := by rw [fps_append]; simp [fps]
    rw [e]
    intro b hb
    rcases List.mem_append.1 hb with hb | hb
    · exact (own_vlt he b hb).1
    · rcases List.mem_append.1 hb with hb | hb
      · exact h.lo b (by simp [hb])
      · exact Nat.le_trans hlo (hf b hb)
theorem KApp.done {w : World} {lo : Nat} {ks : List Rex} {j : Nat} {v : Value} {L : List KInfo} (h : KApp w lo ks j v L) (hj : j = ks.length) (hn : ks.length ≤ maxN) : OwnK w (vblk v ++ fps L) ks v L := by
  subst hj
  have e := h.own
  rw [List.take_length] at e
  exact ⟨h.len.symm, own_lower e (Nat.zero_le _), hn, h.hr, rfl, h.nd⟩
def SCopyOk (r : Rex) : Prop := ∀ (v1 v2 : Value) (w : World) (lo : Nat), RexV w lo r (.int .i64 r.kind) v1 v2 → r.size ≤ 1073741824 →
  Calls Tryz.prog 60 #[.agg #[.int .i64 r.kind, v1, v2]] w (CopyPost r.kind r.set r.kids w)

def SCopyOk' (r : Rex) : Prop := ∀ (v1 v2 : Value) (w : World) (lo : Nat), RexV w lo r (.int .i64 r.kind) v1 v2 → r.size ≤ 1073741824 →
  Calls Tryz.prog 60 #[.agg #[.int .i64 r.kind, v1, v2]] w fun e w' => ∃ v, e = .returned v ∧ ∃ u1 u2 fp, v = .agg #[.int .i64 r.kind, u1, u2] ∧ OwnT w' fp (.mk r.kind r.set r.kids) u1 u2 ∧ fp.Nodup ∧ (∀ b, b ∈ fp → w.heap.size ≤ b) ∧ Below w.heap.size w w'
set_option maxRecDepth 100000 in
set_option maxHeartbeats 4000000 in
theorem sCopy_c (r : Rex) : SCopyOk r := by
  refine Rex.ind (p := SCopyOk) (fun k s ks ih => ?_) r
  have ih' : ∀ r, r ∈ ks → SCopyOk' r := fun r hr v1 v2 w lo h hsz => (ih r hr v1 v2 w lo h hsz).mono fun e w' ⟨u1, u2, fp, he, rest⟩ => ⟨_, he, u1, u2, fp, rfl, rest⟩
  intro v1 v2 w lo h hsz
  obtain ⟨A, c, K, ck, _, rfl, rfl, hs, hk⟩ := h.parts
  dsimp only [Rex.kind, Rex.set, Rex.kids] at hs hk ⊢
  rw [Rex.size] at hsz
  clear h
  obtain ⟨wa, hwa⟩ : ∃ x, x = (w.alloc (.cells #[.int .i64 k, .slice A s.length c, .slice K ks.length ck] TRx)).alloc (.cells #[.int .i64 0, nilS, nilS] TRx) := ⟨_, rfl⟩
  have hb : Below w.heap.size w wa := by rw [hwa]; exact below_alloc (below_alloc (Below.refl _ _) _) _
  have m0 : Blk wa w.heap.size #[.int .i64 k, .slice A s.length c, .slice K ks.length ck] TRx := by rw [hwa]; exact (blk_new w _ _).alloc _
  have m1 : Blk wa (w.heap.size + 1) #[.int .i64 0, nilS, nilS] TRx := by
    rw [hwa]
    have := blk_new (w.alloc (.cells #[.int .i64 k, .slice A s.length c, .slice K ks.length ck] TRx)) #[.int .i64 0, nilS, nilS] TRx
    simpa using this
  have hz1 : w.heap.size + 1 < wa.heap.size := m1.lt
  replace hwa := hwa.symm
  have HB := Lib.hid hb
  have M0 := Lib.hid m0
  have M1 := Lib.hid m1
  have HS := Lib.hid (hs.below hb)
  have HK := Lib.hid (hk.below hb)
  clear hb m0 m1 hs hk
  have HM : Hid (∀ w', Below wa.heap.size wa w' → w'.cell? ⟨w.heap.size, 0, none⟩ = some (.int .i64 k) ∧ w'.cell? ⟨w.heap.size, 1, none⟩ = some (.slice A s.length c)) := fun w' hb =>
    ⟨by rw [(M0.out.below hb).cell]; rfl, by rw [(M0.out.below hb).cell]; rfl⟩
  obtain ⟨i0, hi, hz0, hza, hz2⟩ := info_parts infoSp
  have BW1 : Hid (Below wa.heap.size wa (wa.alloc E0).drew) := below_drew (below_alloc (Below.refl _ _) _)
  have BW2 : Hid (Below wa.heap.size wa ((wa.alloc E0).alloc Z0).drew) := below_drew (below_alloc (below_alloc (Below.refl _ _) _) _)
  have BW3 : Hid (Below wa.heap.size wa ((wa.alloc Z0).alloc E0).drew) := below_drew (below_alloc (below_alloc (Below.refl _ _) _) _)
  have OW1 : Hid ((wa.alloc E0).drew.ownsRow wa.heap.size TSp 2 (.slice (some ⟨wa.heap.size, 0, none⟩) 0 0) 0 []) := own_below (own_e wa (Nat.le_refl _)) (below_drew (Below.refl _ _))
  have OW2 : Hid (((wa.alloc E0).alloc Z0).drew.ownsRow wa.heap.size TSp 2 (.slice (some ⟨wa.heap.size, 0, none⟩) 0 0) 0 []) := own_below (own_e wa (Nat.le_refl _)) (below_drew (below_alloc (Below.refl _ _) _))
  have OW3 : Hid (((wa.alloc Z0).alloc E0).drew.ownsRow wa.heap.size TSp 2 (.slice (some ⟨wa.heap.size + 1, 0, none⟩) 0 0) 0 []) := by
    have := own_below (own_e (wa.alloc Z0) (lo := wa.heap.size) (by simp)) (below_drew (Below.refl _ _))
    rw [show (wa.alloc Z0).heap.size = wa.heap.size + 1 by simp] at this
    exact this
  have ZW2 : Hid (Blk ((wa.alloc E0).alloc Z0).drew (wa.heap.size + 1) #[.int .i64 0, nilS, nilS] TRx) := by
    have := (blk_new (wa.alloc E0) #[.int .i64 0, nilS, nilS] TRx).below (below_drew (Below.refl _ _))
    rw [show (wa.alloc E0).heap.size = wa.heap.size + 1 by simp] at this
    exact this
  have ZW3 : Hid (Blk ((wa.alloc Z0).alloc E0).drew wa.heap.size #[.int .i64 0, nilS, nilS] TRx) := (((blk_new wa #[.int .i64 0, nilS, nilS] TRx).alloc _).below (below_drew (Below.refl _ _)))
  go_enter Tryz.func60, Tryz.ntmps60
  go_upto_region 1 with fail
  clear hwa
  go_cut [3] (fun s3 wx => LitMidP wa k s s3 wx)
  case first =>
    go_region_held3 (fun w' => Below wa.heap.size wa w' ∧ w'.cell? ⟨w.heap.size, 0, none⟩ = some (.int .i64 k) ∧ w'.cell? ⟨w.heap.size, 1, none⟩ = some (.slice A s.length c))
      ((refine (fun h => ⟨h, HM.out _ h⟩ : Below wa.heap.size wa _ → _) ?_; (repeat (first | exact BB.out | exact Below.refl _ _ | exact below_drew (Below.refl _ _) | refine below_alloc ?_ _ | refine below_drew ?_ | refine below_set ?_ (by first | exact Nat.le_refl _ | exact BB.out.size | exact Nat.le_succ _) _))))
      ((refine step_append_row (by rfl) (.tmp 7) (.tmp 9) 23 (by rfl) wa.heap.size TSp i0 (.agg #[.int .i64 0, .int .i64 0]) 2 16 Tryz.underlying23 hi hz0 hza hz2 rfl (by decide) _ 0 [] (by rfl) (by first | exact OW1.out | exact OW2.out | exact OW3.out) A s.length c (spcs s) (by rfl) (HS.out.below (by first | exact BW1.out | exact BW2.out | exact BW3.out)).row (spcs_length _) (spcs_one _) (by unfold maxLen; omega) (by omega) (by first | exact BW1.out.size | exact BW2.out.size | exact BW3.out.size) _ rfl s.length (Nat.zero_add _) ?_; intro A1 c1 wB hown hgrow hat; have OS : Hid (wB.ownsRow wa.heap.size TSp 2 (.slice A1 s.length c1) s.length (spcs s)) := hown; (first | have BB := Lib.hid (BW1.out.grown (show (wa.alloc E0).drew.grownBy wB (some wa.heap.size) from hgrow) BW1.out.size (fun k hk => by injection hk with hk; omega)) | (have g2 : ((wa.alloc E0).alloc Z0).drew.grownBy wB (some wa.heap.size) := hgrow; have BB := Lib.hid (BW2.out.grown g2 BW2.out.size (fun k hk => by injection hk with hk; omega)); have Z := ZW2.out.grown g2 (fun k hk => by injection hk with hk; omega); have HV : Hid (wa.heap.size + 1 ∉ vblk (.slice A1 s.length c1)) := hv2 (n := wa.heap.size) hat (by omega) (by first | (simp; done) | (simp; omega)); clear g2) | (have g3 : ((wa.alloc Z0).alloc E0).drew.grownBy wB (some (wa.heap.size + 1)) := hgrow; have BB := Lib.hid (BW3.out.grown g3 BW3.out.size (fun k hk => by injection hk with hk; omega)); have Z := ZW3.out.grown g3 (fun k hk => by injection hk with hk; omega); have HV : Hid (wa.heap.size ∉ vblk (.slice A1 s.length c1)) := hv2 (n := wa.heap.size + 1) hat (by omega) (by first | (simp; done) | (simp; omega)); clear g3)); (first | (have z0 := (Z.cell 0).trans rfl; have z1 := (Z.cell 1).trans rfl; have z2 := (Z.cell 2).trans rfl; have f0 := Z.free 0; have f1 := Z.free 1; have f2 := Z.free 2; have HZ := Lib.hid Z; clear Z) | skip); clear hown hgrow hat))
    all_goals
      go_wp2_with fail
      go_meet
      first
        | exact lit1 HS.out.len OS.out BB.out
        | exact lit2 HS.out.len OS.out BB.out HZ.out (by omega) HV.out
  case rest =>
    obtain ⟨g, vS, rfl, hm⟩ := hcut
    have hgl := hm.gl
    obtain ⟨A1, c1, eS, _⟩ := hm.set.sps
    subst eS
    have HBG := Lib.hid hm.blk
    have HOS := Lib.hid hm.set
    have HBE := Lib.hid hm.bel
    have HGS := Lib.hid hm.gS
    have hgc : g < wc.heap.size := hm.blk.lt
    have hzc : wa.heap.size ≤ wc.heap.size := hm.bel.size
    have HVS : Hid (∀ b, b ∈ vblk (.slice A1 s.length c1) → b < wc.heap.size) := fun b hb => (hm.set.lt b hb).2
    have HM1 := Lib.hid (M1.out.below hm.bel)
    have HM0 := Lib.hid (M0.out.below hm.bel)
    have hlen : ks.length ≤ 1073741824 := by omega
    clear hm HM HS M0 M1 OW1 OW2 OW3 BW1 BW2 BW3 ZW2 ZW3 hi hz0 hza hz2
    obtain ⟨i1, hi, hz0, hza, hz2⟩ := info_parts infoRx
    go_wp2_with fail
    go_loopg [4] (ks.length) (fun n i wr => ∃ j : Nat, j + n = ks.length ∧ i = .int .i64 j ∧ ∃ (A2 : Option Addr) (c2 : Nat) (L : List KInfo), Hid (KApp wr wc.heap.size ks j (.slice A2 j c2) L) ∧
      Hid (Blk wr g #[.int .i64 k, .slice A1 s.length c1, .slice A2 j c2] TRx) ∧ Hid (OwnSp wr wa.heap.size (.slice A1 s.length c1) s) ∧ Hid (Below wa.heap.size wa wr) ∧ Hid (Blk wr (w.heap.size + 1) #[.int .i64 0, nilS, nilS] TRx) ∧ Hid (Blk wr w.heap.size #[.int .i64 k, .slice A s.length c, .slice K ks.length ck] TRx) ∧ Hid (wc.heap.size ≤ wr.heap.size))
    case atStart => exact ⟨0, by omega, rfl, none, 0, [], KApp.first _ _ _, HBG, HOS, HBE, HM1, HM0, Nat.le_refl _⟩
    case round =>
      clear HBG HOS HBE HM1 HM0
      obtain ⟨j, hj, rfl, A2, c2, L, HX, HBG, HOS, HBE, HM1, HM0, HWZ⟩ := hrel
      have n2 : wr.cell? ⟨g, 2, none⟩ = some (.slice A2 j c2) := by rw [HBG.out.cell]; rfl
      have m2 : wr.cell? ⟨w.heap.size, 2, none⟩ = some (.slice K ks.length ck) := by rw [HM0.out.cell]; rfl
      by_cases hlt : j < ks.length
      · obtain ⟨a, r, x1, x2, rfl, HR, HD, HV, d0, d1, d2⟩ := (HK.out.below HBE.out).at_ j hlt
        obtain ⟨A3, c3, K3, e3, _, rfl, rfl, _⟩ := HV.out.parts
        have hmem := List.mem_of_getElem? HR.out
        have hks := size_kid hmem
        have HOW := Lib.hid HX.out.own
        have HVK : Hid (∀ b, b ∈ vblk (.slice A2 j c2) → wc.heap.size ≤ b) := fun b hb => HX.out.lo b (by simp [hb])
        have HBB : Hid (∀ q, (Value.slice A2 j c2).ownBlock = some q → q ≠ g) := fun q hq e => by have := HVK.out q (mem_vblk.2 hq); omega
        go_wp2
        go_region_law (first
          | (refine step_append_row (by rfl) (.tmp 20) (.tmp 27) 24 (by rfl) wc.heap.size TRx i1 (.agg #[.int .i64 0, nilS, nilS]) 3 56 Tryz.underlying24 hi hz0 hza hz2 rfl (by decide) (.slice A2 j c2) j (kcells (ks.take j) L) (by rfl) (own_below (own_below HOW.out BD.out) (below_alloc (Below.refl _ _) _)) (some ⟨wD.heap.size, 0, none⟩) 1 1 [.int .i64 r.kind, .slice A4 r.set.length c4, .slice K4 r.kids.length d4] (by rfl) (.inr ⟨⟨wD.heap.size, 0, none⟩, rfl, Nat.zero_le _, new_cells wD [.int .i64 r.kind, .slice A4 r.set.length c4, .slice K4 r.kids.length d4] TRx⟩) rfl (three_one _ _ _ _ _ _ _) (by unfold maxLen; omega) (by omega) (by simp; omega) _ rfl (j + 1) rfl ?_; intro A5 c5 wE hown hgrow hat; have HE := Lib.hid hown; have HG := Lib.hid hgrow; have HAT := Lib.hid hat; have ZB := ((HBG.out.below BD.out).alloc (.cells #[.int .i64 r.kind, .slice A4 r.set.length c4, .slice K4 r.kids.length d4] TRx)).grown hgrow HBB.out; have q2 := (ZB.cell 2).trans rfl; have f2 := ZB.free 2; have HZB := Lib.hid ZB; clear ZB hown hgrow hat)
          | (refine step_call (by rfl) 60 _ _ (by rfl) _ Tryz.func60 (by kernel_rfl) (by kernel_rfl) #[.agg #[.int .i64 r.kind, .slice A3 r.set.length c3, .slice K3 r.kids.length e3]] (by rfl) (ih' r hmem _ _ _ _ (HV.out.under (below_drew (Below.refl _ _))) (by omega)) ?_; rintro _ wD ⟨u1, u2, fp, rfl, ho, hnd, hf, b3⟩; rw [← Rex.eta r] at ho; obtain ⟨L4, fk4, _, _, hos4, hok4⟩ := ho.parts; obtain ⟨A4, c4, rfl, _⟩ := hos4.sps; obtain ⟨K4, d4, rfl, _, _⟩ := own_row hok4.hk; clear hos4 hok4; have BD : Hid (Below wr.heap.size wr wD) := below_then (below_drew (Below.refl _ _)) b3; have HO := Lib.hid ho; have HND := Lib.hid hnd; have HF : Hid (∀ b, b ∈ fp → wr.heap.size ≤ b) := hf; have hzD : wc.heap.size ≤ wD.heap.size := Nat.le_trans HWZ.out BD.out.size; clear ho hnd hf b3; have y2 := (((HBG.out.below BD.out).cell 2).trans rfl : wD.cell? ⟨g, 2, none⟩ = some (.slice A2 j c2)); have ya := fun o => cell_alloc y2 o))
        all_goals
          clear y2 ya q2 f2 n2 m2 d0 d1 d2
          go_wp2
          go_roundg (gk - 1)
          case rel =>
            have hgE : Hid (Below wr.heap.size wr wD) := BD.out
            have keep : ∀ b, b < wc.heap.size → b ≠ g → (wE.setCell ⟨g, 2, none⟩ (.slice A5 (j + 1) c5)).heap[b]? = wr.heap[b]? := fun b hb hne =>
              (Below.heap_setCell _ _ _ _ hne).trans ((HG.out.block b (by simp; omega) fun e => by have := HVK.out b (mem_vblk.2 e.symm); omega).trans (((below_alloc (Below.refl wD.heap.size wD) _).block b (by omega)).trans (BD.out.block b (Nat.lt_of_lt_of_le hb HWZ.out))))
            have hsz : wc.heap.size ≤ (wE.setCell ⟨g, 2, none⟩ (.slice A5 (j + 1) c5)).heap.size := by
              simp only [World.size_setCell]
              exact Nat.le_trans hzD (Nat.le_trans (by simp) HG.out.size)
            refine ⟨j + 1, by omega, by go_num, A5, c5, _, HX.out.snoc HR.out BD.out HO.out HF.out HND.out HE.out HG.out HAT.out hgc HWZ.out, Lib.hid (by simpa using HZB.out.set 2 (.slice A5 (j + 1) c5)), HOS.out.stay fun b hb => keep b (HVS.out b hb) fun e => HGS.out (e ▸ hb), ?_, ⟨(keep _ (by omega) (by omega)).trans HM1.out.eq⟩, ⟨(keep _ (by omega) (by omega)).trans HM0.out.eq⟩, hsz⟩
            refine ((below_then HBE.out (below_then BD.out ((below_alloc (Below.refl wD.heap.size wD) _)))).grown HG.out (by simp; omega) fun q hq => ?_) |> fun hb => below_set hb hgl _
            have := HVK.out q (mem_vblk.2 hq)
            omega
          case measure => omega
      · have hj' : j = ks.length := by omega
        subst hj'
        have HOK := Lib.hid (HX.out.done rfl (by unfold maxN; omega))
        have HFK : Hid (∀ b, b ∈ vblk (.slice A2 ks.length c2) ++ fps L → wa.heap.size ≤ b ∧ b ∉ vblk (.slice A1 s.length c1)) := fun b hb => ⟨Nat.le_trans hzc (HX.out.lo b hb), fun h => by have h1 := HX.out.lo b hb; have h2 := HVS.out b h; omega⟩
        have HM1' := HM1
        clear hj HX n2
        go_wp2_with (first
          | ((with_reducible refine at_ld 30 ?_); refine ev_load (o := ⟨some 30, _, _, _, _, _⟩) rfl TRx _ rfl g rfl [.int .i64 k, .slice A1 s.length c1, .slice A2 ks.length c2] TRx HBG.out _ Tryz.underlying26 rfl (sizeRx' _ _ _) ?_)
          | ((with_reducible refine at_st 2 30 ?_); refine ev_store (o := ⟨none, .store _ (.tmp 2) _, _, _, _, _⟩) rfl rfl TRx (.tmp 2) (.tmp 30) rfl (w.heap.size + 1) 0 rfl [.int .i64 k, .slice A1 s.length c1, .slice A2 ks.length c2] rfl _ TRx HM1.out (sizeRx' _ _ _) (by show 0 + 3 ≤ 3; omega) (three_one _ _ _ _ _ _ _) ?_; intro w5 hX5 hg5; have HX5 : Hid (Blk w5 (w.heap.size + 1) #[.int .i64 k, .slice A1 s.length c1, .slice A2 ks.length c2] TRx) := hX5; have HG5 := Lib.hid hg5; clear hX5 hg5))
        refine bodyPost_ret (results_cell_row rfl _ _ (w.heap.size + 1) TRx _ (0, 0) _ rfl HX5.out.eq Tryz.underlying26 rfl (by rw [sizeRx]; rfl)) rfl ?_
        exact copy_fin hz1 HB.out HOS.out HOK.out HBE.out HFK.out HG5.out

end Go.Proofs.YtfeidjjabjejiaaGreatDoor

/- NormNot, NormStar, of the program and of the reference. -/
namespace Go.Proofs.YtfeidjjabjejiaaGreatDoor
set_option linter.unusedSimpArgs false
set_option linter.unusedVariables false
set_option maxRecDepth 100000
open Go.RowKit

def noRex : Rex := .mk 0 [] []
def norm60 (f : Rex → Rex) (r : Rex) : Rex := if formed 60 r = true then f r else noRex
theorem OwnT.leaf (w : World) (k : Int) : OwnT w [] (.mk k [] []) nilS nilS := OwnT.of (fk := []) (k := k) (OwnSp.nil w 0) OwnK.empty (by simp [vblk_nil])
theorem kid0_size (r : Rex) : (kid0 r).size ≤ r.size := by
  obtain ⟨k, s, ks⟩ := r
  show (ks.getD 0 default).size ≤ _
  cases ks with
  | nil => show (default : Rex).size ≤ _; show (Rex.mk 0 [] []).size ≤ _; simp [Rex.size, sizeL]
  | cons x xs => show x.size ≤ _; rw [Rex.size, sizeL]; omega
theorem one_size (k : Int) (r : Rex) : (Rex.mk k [] [r]).size = r.size + 1 := by simp [Rex.size, sizeL]; omega
theorem nNot_size (r : Rex) : (nNot r).size ≤ r.size + 1 := by
  unfold nNot
  split
  · have := kid0_size r; omega
  · rw [one_size]; exact Nat.le_refl _
theorem nStar_size (r : Rex) : (nStar r).size ≤ r.size + 1 := by
  unfold nStar
  split
  · omega
  · split
    · simp [Rex.size, sizeL]
    · rw [one_size]; exact Nat.le_refl _
theorem own_fin {w wr w5 : World} {fp : List Nat} {t : Rex} {u1 u2 : Value} {R n : Nat} (HO : OwnT wr fp t u1 u2) (HN : fp.Nodup) (HF : ∀ b, b ∈ fp → n ≤ b) (hn : R < n) (hR : w.heap.size ≤ R) (HB : Below w.heap.size w wr) (HG : wr.grownBy w5 (some R)) :
    CopyPost t.kind t.set t.kids w (.returned (.agg #[.int .i64 t.kind, u1, u2])) w5 := by
  refine ⟨u1, u2, fp, rfl, ?_, HN, fun b hb => by have := HF b hb; omega, HB.grown HG HB.size fun q hq => by injection hq with hq; omega⟩
  rw [← Rex.eta]
  exact HO.stay fun b hb => HG.block b (HO.lt b hb) fun e => by injection e with e; have := HF b hb; omega
theorem CopyPost.own {k : Int} {s : List Sp} {ks : List Rex} {w : World} {e : Ending} {w' : World} (h : CopyPost k s ks w e w') :
    ∃ A c K ck fp, e = .returned (.agg #[.int .i64 k, .slice A s.length c, .slice K ks.length ck]) ∧ OwnT w' fp (.mk k s ks) (.slice A s.length c) (.slice K ks.length ck) ∧ fp.Nodup ∧ (∀ b, b ∈ fp → w.heap.size ≤ b) ∧ Below w.heap.size w w' := by
  obtain ⟨u1, u2, fp, rfl, ho, hn, hf, hb⟩ := h
  obtain ⟨L, fk, _, _, hs, hk⟩ := ho.parts
  obtain ⟨A, c, rfl, _⟩ := hs.sps
  obtain ⟨K, ck, rfl, _, _⟩ := own_row hk.hk
  exact ⟨A, c, K, ck, fp, rfl, ho, hn, hf, hb⟩

set_option maxHeartbeats 2000000 in
theorem iNormNot_c (r : Rex) (v1 v2 : Value) (w : World) (lo : Nat) (h : RexV w lo r (.int .i64 r.kind) v1 v2) (hsz : r.size ≤ 1048576) :
    Calls Tryz.prog 19 #[.agg #[.int .i64 r.kind, v1, v2]] w (CopyPost (norm60 nNot r).kind (norm60 nNot r).set (norm60 nNot r).kids w) := by
  obtain ⟨A, c, K, ck, _, rfl, rfl, _, _⟩ := h.parts
  obtain ⟨wa, hwa⟩ : ∃ x, x = (w.alloc (.cells #[.int .i64 r.kind, .slice A r.set.length c, .slice K r.kids.length ck] TRx)).alloc (.cells #[.int .i64 0, nilS, nilS] TRx) := ⟨_, rfl⟩
  have hb : Below w.heap.size w wa := by rw [hwa]; exact below_alloc (below_alloc (Below.refl _ _) _) _
  have m0 : Blk wa w.heap.size #[.int .i64 r.kind, .slice A r.set.length c, .slice K r.kids.length ck] TRx := by rw [hwa]; exact (blk_new w _ _).alloc _
  have m1 : Blk wa (w.heap.size + 1) #[.int .i64 0, nilS, nilS] TRx := by
    rw [hwa]
    have := blk_new (w.alloc (.cells #[.int .i64 r.kind, .slice A r.set.length c, .slice K r.kids.length ck] TRx)) #[.int .i64 0, nilS, nilS] TRx
    simpa using this
  have hz1 : wa.heap.size = w.heap.size + 2 := by rw [hwa]; simp
  have HZ := Lib.hid hz1
  clear hz1
  replace hwa := hwa.symm
  have HV := Lib.hid (h.under hb)
  have HB := Lib.hid hb
  have M0 := Lib.hid m0
  have M1 := Lib.hid m1
  have n0 : wa.cell? ⟨w.heap.size, 0, none⟩ = some (.int .i64 r.kind) := by rw [m0.cell]; rfl
  have n1 : wa.cell? ⟨w.heap.size, 1, none⟩ = some (.slice A r.set.length c) := by rw [m0.cell]; rfl
  have n2 : wa.cell? ⟨w.heap.size, 2, none⟩ = some (.slice K r.kids.length ck) := by rw [m0.cell]; rfl
  clear hb m0 m1 h
  obtain ⟨wb, hwb⟩ : ∃ x, x = wa.alloc (.cells #[.int .i64 r.kind, .slice A r.set.length c, .slice K r.kids.length ck] TRx) := ⟨_, rfl⟩
  have hbb : Below wa.heap.size wa wb := by rw [hwb]; exact below_alloc (Below.refl _ _) _
  have mb : Blk wb wa.heap.size #[.int .i64 r.kind, .slice A r.set.length c, .slice K r.kids.length ck] TRx := by rw [hwb]; exact blk_new _ _ _
  have HK1 := Lib.hid (KidsP.mk1 (p := fun b => b < wb.heap.size) mb mb.lt (HV.out.under hbb).rexp)
  replace hwb := hwb.symm
  go_enter Tryz.func19, Tryz.ntmps19
  go_wp2_with fail
  clear hwa hwb
  refine (iGiven_c [r] _ _ _ _ HK1.out.kids).mono ?_
  rintro e w1 ⟨rfl, b1'⟩
  have b1 : Below wa.heap.size wa w1 := below_then hbb b1'
  have M1a := Lib.hid (M1.out.below b1)
  have M0a := Lib.hid (M0.out.below b1)
  have HBa := Lib.hid (below_then HB.out b1)
  clear n0 n1 n2
  have n0 : w1.cell? ⟨w.heap.size, 0, none⟩ = some (.int .i64 r.kind) := by rw [M0a.out.cell]; rfl
  have n1 : w1.cell? ⟨w.heap.size, 1, none⟩ = some (.slice A r.set.length c) := by rw [M0a.out.cell]; rfl
  have n2 : w1.cell? ⟨w.heap.size, 2, none⟩ = some (.slice K r.kids.length ck) := by rw [M0a.out.cell]; rfl
  have HVa := Lib.hid (HV.out.under b1)
  have HZa := Lib.hid b1.size
  simp only [List.all_cons, List.all_nil, Bool.and_true]
  clear b1 b1' hbb mb HK1
  by_cases hf : formed 60 r = true
  · have E : Hid (norm60 nNot r = nNot r) := by show _ = _; rw [norm60, if_pos hf]
    have HFO := Lib.hid hf
    rw [hf]
    clear hf
    go_wp2_with fail
    refine (iNot_c r 60 _ _ _ _ HFO.out HVa.out.rexp (fun b h => h)).mono ?_
    rintro e w3 ⟨A3, c3, K3, k3, rfl, hv3, b3⟩
    have HV3 := Lib.hid hv3.rexv
    have M1d := Lib.hid (M1a.out.below b3)
    have HBd := Lib.hid (below_then HBa.out b3)
    have HZd := Lib.hid (Nat.le_trans HZa.out b3.size)
    have hs3 := nNot_size r
    clear hv3 b3 n0 n1 n2
    go_wp2_with fail
    refine (rexCopy_c (nNot r) _ _ _ _ HV3.out (by omega)).mono ?_
    rintro e w4 hc
    obtain ⟨A4, c4, K4, k4, fp4, rfl, ho4, hn4, hf4, b4⟩ := hc.own
    rw [← Rex.eta] at ho4
    have HO4 := Lib.hid ho4
    have HN4 := Lib.hid hn4
    have HF4 := Lib.hid hf4
    have M1e := Lib.hid (M1d.out.below b4)
    have HBe := Lib.hid (below_then HBd.out b4)
    clear ho4 hn4 hf4 b4 hc hs3
    go_wp2_with ((with_reducible refine at_st 2 10 ?_); refine ev_store (o := ⟨none, .store _ (.tmp 2) _, _, _, _, _⟩) rfl rfl TRx (.tmp 2) (.tmp 10) rfl (w.heap.size + 1) 0 rfl [.int .i64 (nNot r).kind, .slice A4 (nNot r).set.length c4, .slice K4 (nNot r).kids.length k4] rfl _ TRx M1e.out (sizeRx' _ _ _) (by show 0 + 3 ≤ 3; omega) (three_one _ _ _ _ _ _ _) ?_; intro w5 hX5 hg5; have HX5 : Hid (Blk w5 (w.heap.size + 1) ([.int .i64 (nNot r).kind, .slice A4 (nNot r).set.length c4, .slice K4 (nNot r).kids.length k4]).toArray TRx) := hX5; have HG5 := Lib.hid hg5; clear hX5 hg5)
    refine bodyPost_ret (results_cell_row rfl _ _ (w.heap.size + 1) TRx _ (0, 0) _ rfl HX5.out.eq Tryz.underlying26 rfl (by rw [sizeRx]; rfl)) rfl ?_
    rw [E.out]
    exact own_fin HO4.out HN4.out HF4.out (by have h1 := HZ.out; have h2 := HZd.out; omega) (Nat.le_succ _) HBe.out HG5.out
  · have E : Hid (norm60 nNot r = noRex) := by show _ = _; rw [norm60, if_neg hf]
    have HFO : Hid (formed 60 r = false) := by show _ = _; simpa using hf
    rw [HFO.out]
    clear hf n0 n1 n2
    go_wp2_with ((with_reducible refine at_st 2 7 ?_); refine ev_store (o := ⟨none, .store _ (.tmp 2) _, _, _, _, _⟩) rfl rfl TRx (.tmp 2) (.tmp 7) rfl (w.heap.size + 1) 0 rfl [.int .i64 0, nilS, nilS] rfl _ TRx M1a.out (sizeRx' _ _ _) (by show 0 + 3 ≤ 3; omega) (three_one _ _ _ _ _ _ _) ?_; intro w5 hX5 hg5; have HX5 : Hid (Blk w5 (w.heap.size + 1) ([.int .i64 0, nilS, nilS]).toArray TRx) := hX5; have HG5 := Lib.hid hg5; clear hX5 hg5)
    refine bodyPost_ret (results_cell_row rfl _ _ (w.heap.size + 1) TRx _ (0, 0) _ rfl HX5.out.eq Tryz.underlying26 rfl (by rw [sizeRx]; rfl)) rfl ?_
    rw [E.out]
    exact own_fin (t := noRex) (OwnT.leaf _ 0) List.nodup_nil (fun b hb => absurd hb (List.not_mem_nil)) (Nat.lt_succ_self _) (Nat.le_succ _) HBa.out HG5.out
set_option maxHeartbeats 2000000 in
theorem iNormStar_c (r : Rex) (v1 v2 : Value) (w : World) (lo : Nat) (h : RexV w lo r (.int .i64 r.kind) v1 v2) (hsz : r.size ≤ 1048576) :
    Calls Tryz.prog 46 #[.agg #[.int .i64 r.kind, v1, v2]] w (CopyPost (norm60 nStar r).kind (norm60 nStar r).set (norm60 nStar r).kids w) := by
  obtain ⟨A, c, K, ck, _, rfl, rfl, _, _⟩ := h.parts
  obtain ⟨wa, hwa⟩ : ∃ x, x = (w.alloc (.cells #[.int .i64 r.kind, .slice A r.set.length c, .slice K r.kids.length ck] TRx)).alloc (.cells #[.int .i64 0, nilS, nilS] TRx) := ⟨_, rfl⟩
  have hb : Below w.heap.size w wa := by rw [hwa]; exact below_alloc (below_alloc (Below.refl _ _) _) _
  have m0 : Blk wa w.heap.size #[.int .i64 r.kind, .slice A r.set.length c, .slice K r.kids.length ck] TRx := by rw [hwa]; exact (blk_new w _ _).alloc _
  have m1 : Blk wa (w.heap.size + 1) #[.int .i64 0, nilS, nilS] TRx := by
    rw [hwa]
    have := blk_new (w.alloc (.cells #[.int .i64 r.kind, .slice A r.set.length c, .slice K r.kids.length ck] TRx)) #[.int .i64 0, nilS, nilS] TRx
    simpa using this
  have hz1 : wa.heap.size = w.heap.size + 2 := by rw [hwa]; simp
  have HZ := Lib.hid hz1
  clear hz1
  replace hwa := hwa.symm
  have HV := Lib.hid (h.under hb)
  have HB := Lib.hid hb
  have M0 := Lib.hid m0
  have M1 := Lib.hid m1
  have n0 : wa.cell? ⟨w.heap.size, 0, none⟩ = some (.int .i64 r.kind) := by rw [m0.cell]; rfl
  have n1 : wa.cell? ⟨w.heap.size, 1, none⟩ = some (.slice A r.set.length c) := by rw [m0.cell]; rfl
  have n2 : wa.cell? ⟨w.heap.size, 2, none⟩ = some (.slice K r.kids.length ck) := by rw [m0.cell]; rfl
  clear hb m0 m1 h
  obtain ⟨wb, hwb⟩ : ∃ x, x = wa.alloc (.cells #[.int .i64 r.kind, .slice A r.set.length c, .slice K r.kids.length ck] TRx) := ⟨_, rfl⟩
  have hbb : Below wa.heap.size wa wb := by rw [hwb]; exact below_alloc (Below.refl _ _) _
  have mb : Blk wb wa.heap.size #[.int .i64 r.kind, .slice A r.set.length c, .slice K r.kids.length ck] TRx := by rw [hwb]; exact blk_new _ _ _
  have HK1 := Lib.hid (KidsP.mk1 (p := fun b => b < wb.heap.size) mb mb.lt (HV.out.under hbb).rexp)
  replace hwb := hwb.symm
  go_enter Tryz.func46, Tryz.ntmps46
  go_wp2_with fail
  clear hwa hwb
  refine (iGiven_c [r] _ _ _ _ HK1.out.kids).mono ?_
  rintro e w1 ⟨rfl, b1'⟩
  have b1 : Below wa.heap.size wa w1 := below_then hbb b1'
  have M1a := Lib.hid (M1.out.below b1)
  have M0a := Lib.hid (M0.out.below b1)
  have HBa := Lib.hid (below_then HB.out b1)
  clear n0 n1 n2
  have n0 : w1.cell? ⟨w.heap.size, 0, none⟩ = some (.int .i64 r.kind) := by rw [M0a.out.cell]; rfl
  have n1 : w1.cell? ⟨w.heap.size, 1, none⟩ = some (.slice A r.set.length c) := by rw [M0a.out.cell]; rfl
  have n2 : w1.cell? ⟨w.heap.size, 2, none⟩ = some (.slice K r.kids.length ck) := by rw [M0a.out.cell]; rfl
  have HVa := Lib.hid (HV.out.under b1)
  have HZa := Lib.hid b1.size
  simp only [List.all_cons, List.all_nil, Bool.and_true]
  clear b1 b1' hbb mb HK1
  by_cases hf : formed 60 r = true
  · have E : Hid (norm60 nStar r = nStar r) := by show _ = _; rw [norm60, if_pos hf]
    have HFO := Lib.hid hf
    rw [hf]
    clear hf
    go_wp2_with fail
    refine (iStar_c r _ _ _ _ HVa.out.rexp (fun b h => h)).mono ?_
    rintro e w3 ⟨A3, c3, K3, k3, rfl, hv3, b3⟩
    have HV3 := Lib.hid hv3.rexv
    have M1d := Lib.hid (M1a.out.below b3)
    have HBd := Lib.hid (below_then HBa.out b3)
    have HZd := Lib.hid (Nat.le_trans HZa.out b3.size)
    have hs3 := nStar_size r
    clear hv3 b3 n0 n1 n2
    go_wp2_with fail
    refine (rexCopy_c (nStar r) _ _ _ _ HV3.out (by omega)).mono ?_
    rintro e w4 hc
    obtain ⟨A4, c4, K4, k4, fp4, rfl, ho4, hn4, hf4, b4⟩ := hc.own
    rw [← Rex.eta] at ho4
    have HO4 := Lib.hid ho4
    have HN4 := Lib.hid hn4
    have HF4 := Lib.hid hf4
    have M1e := Lib.hid (M1d.out.below b4)
    have HBe := Lib.hid (below_then HBd.out b4)
    clear ho4 hn4 hf4 b4 hc hs3
    go_wp2_with ((with_reducible refine at_st 2 10 ?_); refine ev_store (o := ⟨none, .store _ (.tmp 2) _, _, _, _, _⟩) rfl rfl TRx (.tmp 2) (.tmp 10) rfl (w.heap.size + 1) 0 rfl [.int .i64 (nStar r).kind, .slice A4 (nStar r).set.length c4, .slice K4 (nStar r).kids.length k4] rfl _ TRx M1e.out (sizeRx' _ _ _) (by show 0 + 3 ≤ 3; omega) (three_one _ _ _ _ _ _ _) ?_; intro w5 hX5 hg5; have HX5 : Hid (Blk w5 (w.heap.size + 1) ([.int .i64 (nStar r).kind, .slice A4 (nStar r).set.length c4, .slice K4 (nStar r).kids.length k4]).toArray TRx) := hX5; have HG5 := Lib.hid hg5; clear hX5 hg5)
    refine bodyPost_ret (results_cell_row rfl _ _ (w.heap.size + 1) TRx _ (0, 0) _ rfl HX5.out.eq Tryz.underlying26 rfl (by rw [sizeRx]; rfl)) rfl ?_
    rw [E.out]
    exact own_fin HO4.out HN4.out HF4.out (by have h1 := HZ.out; have h2 := HZd.out; omega) (Nat.le_succ _) HBe.out HG5.out
  · have E : Hid (norm60 nStar r = noRex) := by show _ = _; rw [norm60, if_neg hf]
    have HFO : Hid (formed 60 r = false) := by show _ = _; simpa using hf
    rw [HFO.out]
    clear hf n0 n1 n2
    go_wp2_with ((with_reducible refine at_st 2 7 ?_); refine ev_store (o := ⟨none, .store _ (.tmp 2) _, _, _, _, _⟩) rfl rfl TRx (.tmp 2) (.tmp 7) rfl (w.heap.size + 1) 0 rfl [.int .i64 0, nilS, nilS] rfl _ TRx M1a.out (sizeRx' _ _ _) (by show 0 + 3 ≤ 3; omega) (three_one _ _ _ _ _ _ _) ?_; intro w5 hX5 hg5; have HX5 : Hid (Blk w5 (w.heap.size + 1) ([.int .i64 0, nilS, nilS]).toArray TRx) := hX5; have HG5 := Lib.hid hg5; clear hX5 hg5)
    refine bodyPost_ret (results_cell_row rfl _ _ (w.heap.size + 1) TRx _ (0, 0) _ rfl HX5.out.eq Tryz.underlying26 rfl (by rw [sizeRx]; rfl)) rfl ?_
    rw [E.out]
    exact own_fin (t := noRex) (OwnT.leaf _ 0) List.nodup_nil (fun b hb => absurd hb (List.not_mem_nil)) (Nat.lt_succ_self _) (Nat.le_succ _) HBa.out HG5.out

end Go.Proofs.YtfeidjjabjejiaaGreatDoor

/- Norm, of the program and of the reference. -/
namespace Go.Proofs.YtfeidjjabjejiaaGreatDoor
set_option linter.unusedSimpArgs false
set_option linter.unusedVariables false
set_option maxRecDepth 100000
open Go.RowKit

def normOf (r : Rex) : Rex := if rexOk r = true then nrm r else noRex
theorem rexOk_wf {r : Rex} (h : rexOk r = true) : wf r ∧ r.many ≤ 24 := by
  rw [rexOk, Bool.and_eq_true, decide_eq_true_eq] at h
  exact ⟨⟨8, h.1⟩, h.2⟩
theorem normOf_size (r : Rex) : (normOf r).size ≤ 4000 := by
  unfold normOf
  split
  · rename_i h
    obtain ⟨h1, h2⟩ := rexOk_wf h
    have h3 := nrm_fit r h1
    have h4 := wf_size h3.wf
    have h5 := h3.many
    omega
  · show (Rex.mk 0 [] []).size ≤ _; simp [Rex.size, sizeL]
theorem iCopy_b (r : Rex) (v1 v2 : Value) (w : World) (lo : Nat) (h : RexV w lo r (.int .i64 r.kind) v1 v2) (hs : r.size ≤ 1073741824) : Calls Tryz.prog 56 #[.agg #[.int .i64 r.kind, v1, v2]] w (CopyPost r.kind r.set r.kids w) := rexCopy_c r v1 v2 w lo h hs
theorem sCopy_b (r : Rex) (v1 v2 : Value) (w : World) (lo : Nat) (h : RexV w lo r (.int .i64 r.kind) v1 v2) (hs : r.size ≤ 1073741824) : Calls Tryz.prog 60 #[.agg #[.int .i64 r.kind, v1, v2]] w (CopyPost r.kind r.set r.kids w) := sCopy_c r v1 v2 w lo h hs
set_option maxHeartbeats 2000000 in
theorem iNormX_c (r : Rex) (v1 v2 : Value) (w : World) (lo : Nat) (h : RexV w lo r (.int .i64 r.kind) v1 v2) (hsz : r.size ≤ 1048576) (hpw : Pow10 w) :
    Calls Tryz.prog 21 #[.agg #[.int .i64 r.kind, v1, v2]] w (CopyPost (normOf r).kind (normOf r).set (normOf r).kids w) := by
  obtain ⟨A, c, K, ck, _, rfl, rfl, _, _⟩ := h.parts
  obtain ⟨wa, hwa⟩ : ∃ x, x = (w.alloc (.cells #[.int .i64 r.kind, .slice A r.set.length c, .slice K r.kids.length ck] TRx)).alloc (.cells #[.int .i64 0, nilS, nilS] TRx) := ⟨_, rfl⟩
  have hb : Below w.heap.size w wa := by rw [hwa]; exact below_alloc (below_alloc (Below.refl _ _) _) _
  have m0 : Blk wa w.heap.size #[.int .i64 r.kind, .slice A r.set.length c, .slice K r.kids.length ck] TRx := by rw [hwa]; exact (blk_new w _ _).alloc _
  have m1 : Blk wa (w.heap.size + 1) #[.int .i64 0, nilS, nilS] TRx := by
    rw [hwa]
    have := blk_new (w.alloc (.cells #[.int .i64 r.kind, .slice A r.set.length c, .slice K r.kids.length ck] TRx)) #[.int .i64 0, nilS, nilS] TRx
    simpa using this
  have hz1 : wa.heap.size = w.heap.size + 2 := by rw [hwa]; simp
  have HZ := Lib.hid hz1
  clear hz1
  replace hwa := hwa.symm
  have HV := Lib.hid (h.under hb)
  have HB := Lib.hid hb
  have M0 := Lib.hid m0
  have M1 := Lib.hid m1
  have n0 : wa.cell? ⟨w.heap.size, 0, none⟩ = some (.int .i64 r.kind) := by rw [m0.cell]; rfl
  have n1 : wa.cell? ⟨w.heap.size, 1, none⟩ = some (.slice A r.set.length c) := by rw [m0.cell]; rfl
  have n2 : wa.cell? ⟨w.heap.size, 2, none⟩ = some (.slice K r.kids.length ck) := by rw [m0.cell]; rfl
  clear hb m0 m1 h
  have HPW := Lib.hid hpw
  clear hpw
  go_enter Tryz.func21, Tryz.ntmps21
  go_wp2_with fail
  clear hwa
  refine (iRexOk_c _ _ _ _ _ HV.out hsz).mono ?_
  rintro e w1 ⟨rfl, b1⟩
  have M1a := Lib.hid (M1.out.below b1)
  have M0a := Lib.hid (M0.out.below b1)
  have HBa := Lib.hid (below_then HB.out b1)
  clear n0 n1 n2
  have n0 : w1.cell? ⟨w.heap.size, 0, none⟩ = some (.int .i64 r.kind) := by rw [M0a.out.cell]; rfl
  have n1 : w1.cell? ⟨w.heap.size, 1, none⟩ = some (.slice A r.set.length c) := by rw [M0a.out.cell]; rfl
  have n2 : w1.cell? ⟨w.heap.size, 2, none⟩ = some (.slice K r.kids.length ck) := by rw [M0a.out.cell]; rfl
  have HVa := Lib.hid (HV.out.under b1)
  have HZa := Lib.hid b1.size
  clear b1
  by_cases hf : rexOk r = true
  · have E : Hid (normOf r = nrm r) := by show _ = _; rw [normOf, if_pos hf]
    obtain ⟨hwf, hmn⟩ := rexOk_wf hf
    have hts := normOf_size r
    have IC : Hid (Calls Tryz.prog 58 #[.agg #[.int .i64 r.kind, .slice A r.set.length c, .slice K r.kids.length ck]] w1 (RexPost (fun b => b < w1.heap.size) (nrm r) w1)) := iNorm_c r _ _ w1 _ hwf HVa.out.rexp (fun b h => h) (by omega) (HPW.out.below HBa.out)
    rw [hf]
    rw [E.out] at hts
    obtain ⟨T, hT⟩ : ∃ z, z = nrm r := ⟨_, rfl⟩
    rw [← hT] at hts IC E
    have HTS : Hid (T.size ≤ 1073741824) := by show _ ≤ _; omega
    clear hf hT hts
    go_wp2_with (first
      | ((with_reducible refine IC.out.mono ?_); rintro e w3 ⟨A3, c3, K3, k3, rfl, hv3, b3⟩; have HV3 := Lib.hid hv3.rexv; have M1d := Lib.hid (M1a.out.below b3); have HBd := Lib.hid (below_then HBa.out b3); have HZd := Lib.hid (Nat.le_trans HZa.out b3.size); clear hv3 b3)
      | (((with_reducible refine (iCopy_b T _ _ w3 _ HV3.out HTS.out).mono ?_); rintro e w4 hc; obtain ⟨A4, c4, K4, k4, fp4, rfl, ho4, hn4, hf4, b4⟩ := hc.own; rw [← Rex.eta] at ho4; have HO4 := Lib.hid ho4; have HN4 := Lib.hid hn4; have HF4 := Lib.hid hf4; have M1e := Lib.hid (M1d.out.below b4); have HBe := Lib.hid (below_then HBd.out b4); clear ho4 hn4 hf4 b4 hc))
      | ((with_reducible refine at_st 2 9 ?_); refine ev_store (o := ⟨none, .store _ (.tmp 2) _, _, _, _, _⟩) rfl rfl TRx (.tmp 2) (.tmp 9) rfl (w.heap.size + 1) 0 rfl [.int .i64 T.kind, .slice A4 T.set.length c4, .slice K4 T.kids.length k4] rfl _ TRx M1e.out (sizeRx' _ _ _) (by show 0 + 3 ≤ 3; omega) (three_one _ _ _ _ _ _ _) ?_; intro w5 hX5 hg5; have HX5 : Hid (Blk w5 (w.heap.size + 1) ([.int .i64 T.kind, .slice A4 T.set.length c4, .slice K4 T.kids.length k4]).toArray TRx) := hX5; have HG5 := Lib.hid hg5; clear hX5 hg5)
      | fail)
    refine bodyPost_ret (results_cell_row rfl _ _ (w.heap.size + 1) TRx _ (0, 0) _ rfl HX5.out.eq Tryz.underlying26 rfl (by rw [sizeRx]; rfl)) rfl ?_
    rw [E.out]
    exact own_fin HO4.out HN4.out HF4.out (by have h1 := HZ.out; have h2 := HZd.out; omega) (Nat.le_succ _) HBe.out HG5.out
  · have E : Hid (normOf r = noRex) := by show _ = _; unfold normOf; rw [if_neg hf]
    have HFO : Hid (rexOk r = false) := by show _ = _; simpa using hf
    rw [HFO.out]
    clear hf n0 n1 n2
    go_wp2_with ((with_reducible refine at_st 2 6 ?_); refine ev_store (o := ⟨none, .store _ (.tmp 2) _, _, _, _, _⟩) rfl rfl TRx (.tmp 2) (.tmp 6) rfl (w.heap.size + 1) 0 rfl [.int .i64 0, nilS, nilS] rfl _ TRx M1a.out (sizeRx' _ _ _) (by show 0 + 3 ≤ 3; omega) (three_one _ _ _ _ _ _ _) ?_; intro w5 hX5 hg5; have HX5 : Hid (Blk w5 (w.heap.size + 1) ([.int .i64 0, nilS, nilS]).toArray TRx) := hX5; have HG5 := Lib.hid hg5; clear hX5 hg5)
    refine bodyPost_ret (results_cell_row rfl _ _ (w.heap.size + 1) TRx _ (0, 0) _ rfl HX5.out.eq Tryz.underlying26 rfl (by rw [sizeRx]; rfl)) rfl ?_
    rw [E.out]
    exact own_fin (t := noRex) (OwnT.leaf _ 0) List.nodup_nil (fun b hb => absurd hb (List.not_mem_nil)) (Nat.lt_succ_self _) (Nat.le_succ _) HBa.out HG5.out
set_option maxHeartbeats 2000000 in
theorem sNormX_c (r : Rex) (v1 v2 : Value) (w : World) (lo : Nat) (h : RexV w lo r (.int .i64 r.kind) v1 v2) (hsz : r.size ≤ 1048576) (hpw : Pow10 w) :
    Calls Tryz.prog 45 #[.agg #[.int .i64 r.kind, v1, v2]] w (CopyPost (normOf r).kind (normOf r).set (normOf r).kids w) := by
  obtain ⟨A, c, K, ck, _, rfl, rfl, _, _⟩ := h.parts
  obtain ⟨wa, hwa⟩ : ∃ x, x = (w.alloc (.cells #[.int .i64 r.kind, .slice A r.set.length c, .slice K r.kids.length ck] TRx)).alloc (.cells #[.int .i64 0, nilS, nilS] TRx) := ⟨_, rfl⟩
  have hb : Below w.heap.size w wa := by rw [hwa]; exact below_alloc (below_alloc (Below.refl _ _) _) _
  have m0 : Blk wa w.heap.size #[.int .i64 r.kind, .slice A r.set.length c, .slice K r.kids.length ck] TRx := by rw [hwa]; exact (blk_new w _ _).alloc _
  have m1 : Blk wa (w.heap.size + 1) #[.int .i64 0, nilS, nilS] TRx := by
    rw [hwa]
    have := blk_new (w.alloc (.cells #[.int .i64 r.kind, .slice A r.set.length c, .slice K r.kids.length ck] TRx)) #[.int .i64 0, nilS, nilS] TRx
    simpa using this
  have hz1 : wa.heap.size = w.heap.size + 2 := by rw [hwa]; simp
  have HZ := Lib.hid hz1
  clear hz1
  replace hwa := hwa.symm
  have HV := Lib.hid (h.under hb)
  have HB := Lib.hid hb
  have M0 := Lib.hid m0
  have M1 := Lib.hid m1
  have n0 : wa.cell? ⟨w.heap.size, 0, none⟩ = some (.int .i64 r.kind) := by rw [m0.cell]; rfl
  have n1 : wa.cell? ⟨w.heap.size, 1, none⟩ = some (.slice A r.set.length c) := by rw [m0.cell]; rfl
  have n2 : wa.cell? ⟨w.heap.size, 2, none⟩ = some (.slice K r.kids.length ck) := by rw [m0.cell]; rfl
  clear hb m0 m1 h
  have HPW := Lib.hid hpw
  clear hpw
  go_enter Tryz.func45, Tryz.ntmps45
  go_wp2_with fail
  clear hwa
  refine (sRexOk_c _ _ _ _ _ HV.out hsz).mono ?_
  rintro e w1 ⟨rfl, b1⟩
  have M1a := Lib.hid (M1.out.below b1)
  have M0a := Lib.hid (M0.out.below b1)
  have HBa := Lib.hid (below_then HB.out b1)
  clear n0 n1 n2
  have n0 : w1.cell? ⟨w.heap.size, 0, none⟩ = some (.int .i64 r.kind) := by rw [M0a.out.cell]; rfl
  have n1 : w1.cell? ⟨w.heap.size, 1, none⟩ = some (.slice A r.set.length c) := by rw [M0a.out.cell]; rfl
  have n2 : w1.cell? ⟨w.heap.size, 2, none⟩ = some (.slice K r.kids.length ck) := by rw [M0a.out.cell]; rfl
  have HVa := Lib.hid (HV.out.under b1)
  have HZa := Lib.hid b1.size
  clear b1
  by_cases hf : rexOk r = true
  · have E : Hid (normOf r = nrm r) := by show _ = _; rw [normOf, if_pos hf]
    obtain ⟨hwf, hmn⟩ := rexOk_wf hf
    have HWF := Lib.hid hwf
    have HMN : r.many ≤ 8000 := by omega
    have hts := normOf_size r
    rw [hf]
    rw [E.out] at hts
    have IC : Hid (∀ (w' : World) (a1 a2 : Value), RexV w' 0 r (.int .i64 r.kind) a1 a2 → Below w.heap.size w w' → Calls Tryz.prog 62 #[.agg #[.int .i64 r.kind, a1, a2]] w' (RexPost (fun b => b < w'.heap.size) (nrm r) w')) := fun w' a1 a2 hv hb => sNorm_c r _ _ w' _ HWF.out hv.rexp (fun b h => h) HMN (HPW.out.below hb)
    obtain ⟨T, hT⟩ : ∃ z, z = nrm r := ⟨_, rfl⟩
    rw [← hT] at hts IC E
    have HTS : Hid (T.size ≤ 1073741824) := by show _ ≤ _; omega
    clear hf hT hts hwf hmn
    go_wp2_with fail
    refine (sCopy_c r _ _ _ _ HVa.out (by omega)).mono ?_
    rintro e w2 hc
    obtain ⟨A2, c2, K2, k2, fp2, rfl, ho2, _, hf2, b2⟩ := hc.own
    rw [← Rex.eta] at ho2
    have HO2 := Lib.hid ho2.rex0
    have M1c := Lib.hid (M1a.out.below b2)
    have HBc := Lib.hid (below_then HBa.out b2)
    have HZc := Lib.hid (Nat.le_trans HZa.out b2.size)
    clear ho2 hf2 b2 hc n0 n1 n2
    go_wp2_with (first
      | ((with_reducible refine (IC.out w2 _ _ HO2.out HBc.out).mono ?_); rintro e w3 ⟨A3, c3, K3, k3, rfl, hv3, b3⟩; have HV3 := Lib.hid hv3.rexv; have M1d := Lib.hid (M1c.out.below b3); have HBd := Lib.hid (below_then HBc.out b3); have HZd := Lib.hid (Nat.le_trans HZc.out b3.size); clear hv3 b3)
      | (((with_reducible refine (sCopy_b T _ _ w3 _ HV3.out HTS.out).mono ?_); rintro e w4 hc; obtain ⟨A4, c4, K4, k4, fp4, rfl, ho4, hn4, hf4, b4⟩ := hc.own; rw [← Rex.eta] at ho4; have HO4 := Lib.hid ho4; have HN4 := Lib.hid hn4; have HF4 := Lib.hid hf4; have M1e := Lib.hid (M1d.out.below b4); have HBe := Lib.hid (below_then HBd.out b4); clear ho4 hn4 hf4 b4 hc))
      | ((with_reducible refine at_st 2 10 ?_); refine ev_store (o := ⟨none, .store _ (.tmp 2) _, _, _, _, _⟩) rfl rfl TRx (.tmp 2) (.tmp 10) rfl (w.heap.size + 1) 0 rfl [.int .i64 T.kind, .slice A4 T.set.length c4, .slice K4 T.kids.length k4] rfl _ TRx M1e.out (sizeRx' _ _ _) (by show 0 + 3 ≤ 3; omega) (three_one _ _ _ _ _ _ _) ?_; intro w5 hX5 hg5; have HX5 : Hid (Blk w5 (w.heap.size + 1) ([.int .i64 T.kind, .slice A4 T.set.length c4, .slice K4 T.kids.length k4]).toArray TRx) := hX5; have HG5 := Lib.hid hg5; clear hX5 hg5)
      | fail)
    refine bodyPost_ret (results_cell_row rfl _ _ (w.heap.size + 1) TRx _ (0, 0) _ rfl HX5.out.eq Tryz.underlying26 rfl (by rw [sizeRx]; rfl)) rfl ?_
    rw [E.out]
    exact own_fin HO4.out HN4.out HF4.out (by have h1 := HZ.out; have h2 := HZd.out; omega) (Nat.le_succ _) HBe.out HG5.out
  · have E : Hid (normOf r = noRex) := by show _ = _; unfold normOf; rw [if_neg hf]
    have HFO : Hid (rexOk r = false) := by show _ = _; simpa using hf
    rw [HFO.out]
    clear hf n0 n1 n2
    go_wp2_with ((with_reducible refine at_st 2 6 ?_); refine ev_store (o := ⟨none, .store _ (.tmp 2) _, _, _, _, _⟩) rfl rfl TRx (.tmp 2) (.tmp 6) rfl (w.heap.size + 1) 0 rfl [.int .i64 0, nilS, nilS] rfl _ TRx M1a.out (sizeRx' _ _ _) (by show 0 + 3 ≤ 3; omega) (three_one _ _ _ _ _ _ _) ?_; intro w5 hX5 hg5; have HX5 : Hid (Blk w5 (w.heap.size + 1) ([.int .i64 0, nilS, nilS]).toArray TRx) := hX5; have HG5 := Lib.hid hg5; clear hX5 hg5)
    refine bodyPost_ret (results_cell_row rfl _ _ (w.heap.size + 1) TRx _ (0, 0) _ rfl HX5.out.eq Tryz.underlying26 rfl (by rw [sizeRx]; rfl)) rfl ?_
    rw [E.out]
    exact own_fin (t := noRex) (OwnT.leaf _ 0) List.nodup_nil (fun b hb => absurd hb (List.not_mem_nil)) (Nat.lt_succ_self _) (Nat.le_succ _) HBa.out HG5.out
end Go.Proofs.YtfeidjjabjejiaaGreatDoor

/- The laws' arguments, out of the form's reading: a list of spans. -/
namespace Go.Proofs.YtfeidjjabjejiaaGreatDoor
set_option linter.unusedSimpArgs false
set_option linter.unusedVariables false
set_option maxRecDepth 100000
open Go.RowKit Go.ChangeShapes Go.WideShapes

theorem own_knob : ownKnob Tryz.prog.godebug = none := by kernel_rfl
theorem laid_out : laidOutB Tryz.prog = true := by kernel_rfl

theorem cellsAt_spans {w : World} {a : Addr} {xs : List Sp} (h : ∀ i, i < xs.length → w.cell? (a.add (i * 2)) = some (.int .i64 (xs.getD i default).lo) ∧ w.cell? (a.add (i * 2 + 1)) = some (.int .i64 (xs.getD i default).hi)) : CellsAt w a (spcs xs) := by
  intro j u hj
  have hlt : j < xs.length * 2 := by
    rw [← spcs_length]
    exact (List.getElem?_eq_some_iff.1 hj).1
  have hg := spcs_get xs (j / 2) (by omega)
  have hc := h (j / 2) (by omega)
  rcases Nat.mod_two_eq_zero_or_one j with e | e
  · have ej : j / 2 * 2 = j := by omega
    rw [ej] at hg hc
    rw [hg.1] at hj
    rw [hc.1, hj]
  · have ej : j / 2 * 2 + 1 = j := by omega
    rw [ej] at hg hc
    rw [hg.2] at hj
    rw [hc.2, hj]

/-- a slice of the laws' spans, read -/
theorem open_spans {H : Type} {enc : TypeId × Value → H} {w : World} {spare : Nat → Bool} {held : Bool} {fuel : Nat} {cs : List Value} {x : DataW H × List MemPlace}
    (h : DataW.trod enc Tryz.prog w 0 spare held fuel 35 cs = some x) : ∃ A c xs, cs = [.slice A (List.length xs) c] ∧ Sps w 0 A c xs := by
  rcases Go.Deep.open_slice_pairs Tryz.underlying35 Tryz.underlying107 (by kernel_rfl) rfl rfl (by kernel_rfl) (by kernel_rfl) h with ⟨rfl, _⟩ | ⟨a, len, cap, m, n, V0, V1, D0, D1, P0, P1, rfl, _, hl, hm, hmm, _, hx⟩
  · exact ⟨none, 0, [], rfl, .inl rfl, Nat.le_refl _, by simp⟩
  · have hlm : len ≤ m := by rw [hmm]; split <;> omega
    have g : ∀ i, i < len → ∃ p : Sp, w.cell? (a.add (i * 2)) = some (.int .i64 p.lo) ∧ w.cell? (a.add (i * 2 + 1)) = some (.int .i64 p.hi) := by
      intro i hi
      obtain ⟨h0, h1, t0, t1⟩ := hx i (by omega)
      obtain ⟨n0, e0, _⟩ := DataW.trod_int Tryz.underlying3 t0
      obtain ⟨n1, e1, _⟩ := DataW.trod_int Tryz.underlying3 t1
      rw [List.cons.injEq] at e0 e1
      exact ⟨⟨n0, n1⟩, by rw [h0, e0.1], by rw [h1, e1.1]⟩
    obtain ⟨f, hf⟩ := Go.Deep.choose_lt (α := Sp) g
    refine ⟨some a, cap, (List.range len).map f, by rw [List.length_map, List.length_range], ?_, by rw [List.length_map, List.length_range]; exact hl, by rw [List.length_map, List.length_range]; unfold maxLen at hm; unfold maxN; omega⟩
    rcases Nat.eq_zero_or_pos len with h0 | hpos
    · subst h0
      exact .inl rfl
    · refine .inr ⟨a, rfl, Nat.zero_le _, cellsAt_spans fun i hi => ?_⟩
      have hi' : i < len := by simpa using hi
      have e : ((List.range len).map f).getD i default = f i := by simp [List.getD_eq_getElem?_getD, hi']
      rw [e]
      exact hf i hi'

end Go.Proofs.YtfeidjjabjejiaaGreatDoor

/- The laws' arguments: a list of bytes. -/
namespace Go.Proofs.YtfeidjjabjejiaaGreatDoor
set_option linter.unusedSimpArgs false
set_option linter.unusedVariables false
set_option maxRecDepth 100000
open Go.RowKit Go.ChangeShapes Go.WideShapes

/-- bytes that lie in a row -/
structure Bys (w : World) (lo : Nat) (A : Option Addr) (c : Nat) (bs : List Int) : Prop where
  row : Row w lo A (bs.map fun z => .int .u8 z)
  cap : bs.length ≤ c
  len : bs.length ≤ maxN
  byte : ∀ z ∈ bs, 0 ≤ z ∧ z < 256
theorem Bys.below {w w' : World} {lo : Nat} {A : Option Addr} {c : Nat} {bs : List Int} (h : Bys w lo A c bs) (hb : Below w.heap.size w w') : Bys w' lo A c bs := ⟨h.row.below hb, h.cap, h.len, h.byte⟩
theorem open_bytes {H : Type} {enc : TypeId × Value → H} {w : World} {spare : Nat → Bool} {held : Bool} {fuel : Nat} {cs : List Value} {x : DataW H × List MemPlace}
    (h : DataW.trod enc Tryz.prog w 0 spare held fuel 22 cs = some x) : ∃ A c bs, cs = [.slice A (List.length bs) c] ∧ Bys w 0 A c bs := by
  rcases open_ints Tryz.underlying22 Tryz.underlying5 (by kernel_rfl) h with ⟨rfl, _⟩ | ⟨a, len, cap, zs, rfl, _, hl, hm, hz, _, hx, hw⟩
  · exact ⟨none, 0, [], rfl, .inl rfl, Nat.le_refl _, by simp, fun z hz => by cases hz⟩
  · have hlz : len ≤ zs.length := by rw [hz]; split <;> omega
    have e : (zs.take len).length = len := by rw [List.length_take]; omega
    refine ⟨some a, cap, zs.take len, by rw [e], .inr ⟨a, rfl, Nat.zero_le _, ?_⟩, by rw [e]; exact hl, by rw [e]; unfold maxLen at hm; unfold maxN; omega, ?_⟩
    · intro j u hj
      rw [List.getElem?_map, Option.map_eq_some_iff] at hj
      obtain ⟨z, hz1, rfl⟩ := hj
      have hjl : j < len := by rw [← e]; exact (List.getElem?_eq_some_iff.1 hz1).1
      rw [List.getElem?_take, if_pos hjl] at hz1
      rw [hx j (by omega), List.getD_eq_getElem?_getD, hz1]
      rfl
    · intro z hz
      have := bounds_u8 (hw z (List.mem_of_mem_take hz))
      omega

end Go.Proofs.YtfeidjjabjejiaaGreatDoor

/- The laws' arguments: a tree. -/
namespace Go.Proofs.YtfeidjjabjejiaaGreatDoor
set_option linter.unusedSimpArgs false
set_option linter.unusedVariables false
set_option maxRecDepth 100000
open Go.RowKit Go.ChangeShapes Go.WideShapes

theorem cells_int : Tryz.prog.cellsOf 3 = 1 := by kernel_rfl
theorem cells_spans : Tryz.prog.cellsOf 35 = 1 := by kernel_rfl
theorem cells_rexs : Tryz.prog.cellsOf 36 = 1 := by kernel_rfl
theorem cells_rex : Tryz.prog.cellsOf 38 = 3 := by kernel_rfl

theorem add_pos (a : Addr) (n : Nat) (u : Value) (w : World) (h : w.cell? (a.add n) = some u) (hn : 0 < n) : a.add n = ⟨a.block, a.off + n, none⟩ := by
  have := World.cell?_spot h
  unfold Addr.add at this ⊢
  split
  · omega
  · simp_all

set_option maxHeartbeats 1000000 in
theorem open_rex {H : Type} {enc : TypeId × Value → H} {w : World} {spare : Nat → Bool} {held : Bool} : ∀ (fuel : Nat) (cs : List Value) (x : DataW H × List MemPlace),
    DataW.trod enc Tryz.prog w 0 spare held fuel 38 cs = some x → ∃ r v0 v1 v2, cs = [v0, v1, v2] ∧ RexV w 0 r v0 v1 v2 := by
  intro fuel
  induction fuel using Nat.strongRecOn with
  | _ fuel ih =>
    intro cs x h
    obtain ⟨xs, n, rfl, _, hcs, hxl, hf⟩ := DataW.trod_struct Tryz.underlying38 h
    rw [cells_rex] at hcs
    match xs, hxl, cs, hcs with
    | [y0, y1, y2], _, [v0, v1, v2], _ =>
      have g0 := hf 0 _ rfl
      have g1 := hf 1 _ rfl
      have g2 := hf 2 _ rfl
      simp [cells_int, cells_spans, cells_rexs] at g0 g1 g2
      obtain ⟨k, e0, _⟩ := DataW.trod_int Tryz.underlying3 g0
      rw [List.cons.injEq] at e0
      obtain ⟨A, c, s, e1, hs⟩ := open_spans g1
      rw [List.cons.injEq] at e1
      obtain ⟨rfl, _⟩ := e0
      obtain ⟨rfl, _⟩ := e1
      rcases DataW.trod_slice Tryz.underlying36 g2 with ⟨e2, _⟩ | ⟨a, len, cap, elems, rest, m, rfl, e2, _, _, hl, hm, hlen, hel, _, _⟩
      · rw [List.cons.injEq] at e2
        obtain ⟨rfl, _⟩ := e2
        exact ⟨.mk k s [], _, _, _, rfl, .mk k s [] A none c 0 (fun _ => undef) (fun _ => undef) (fun _ => undef) hs (Nat.le_refl _) (Nat.zero_le _) (fun i hi => by simp at hi) (fun i r hi => by simp at hi)⟩
      · rw [List.cons.injEq] at e2
        obtain ⟨rfl, _⟩ := e2
        have each : ∀ i, i < len → ∃ q : Rex × Value × Value × Value, KCell w 0 (some a) i q.2.1 q.2.2.1 q.2.2.2 ∧ RexV w 0 q.1 q.2.1 q.2.2.1 q.2.2.2 := by
          intro i hi
          have h1 := hel i hi
          rw [List.getElem?_eq_getElem (by omega)] at h1
          obtain ⟨cs', h2, h3⟩ := Option.bind_eq_some_iff.1 h1
          obtain ⟨r, u0, u1, u2, rfl, hv⟩ := ih m (by omega) cs' _ h3
          rw [cells_rex] at h2
          obtain ⟨_, _, hcell⟩ := World.cells?_some h2
          have c0 : w.cell? ((a.add (i * 3)).add 0) = some u0 := by simpa using hcell 0 (by omega)
          have c1 : w.cell? ((a.add (i * 3)).add 1) = some u1 := by simpa using hcell 1 (by omega)
          have c2 : w.cell? ((a.add (i * 3)).add 2) = some u2 := by simpa using hcell 2 (by omega)
          rw [show (a.add (i * 3)).add 0 = a.add (i * 3) by simp [Addr.add]] at c0
          rw [add_pos _ _ _ _ c1 (by omega)] at c1
          rw [add_pos _ _ _ _ c2 (by omega)] at c2
          exact ⟨(r, u0, u1, u2), ⟨a, rfl, Nat.zero_le _, c0, c1, c2⟩, hv⟩
        obtain ⟨q, hq⟩ := Go.Deep.choose_lt each
        refine ⟨.mk k s ((List.range len).map fun i => (q i).1), _, _, _, rfl, ?_⟩
        have hlen' : ((List.range len).map fun i => (q i).1).length = len := by simp
        have hv := RexV.of (w := w) (lo := 0) (k := k) (A := A) (c := c) (K := some a) (ck := cap) hs (ks := (List.range len).map fun i => (q i).1) ⟨⟨fun i => (q i).2.1, fun i => (q i).2.2.1, fun i => (q i).2.2.2, fun i hi => (hq i (by omega)).1, fun i r hi => by
          rw [List.getElem?_map, Option.map_eq_some_iff] at hi
          obtain ⟨j, hj, rfl⟩ := hi
          obtain ⟨hj1, hj2⟩ := List.getElem?_eq_some_iff.1 hj
          simp at hj1 hj2
          subst hj2
          exact (hq i hj1).2⟩, by omega, by unfold maxLen at hm; unfold maxN; omega⟩
        rw [hlen'] at hv
        exact hv

end Go.Proofs.YtfeidjjabjejiaaGreatDoor
