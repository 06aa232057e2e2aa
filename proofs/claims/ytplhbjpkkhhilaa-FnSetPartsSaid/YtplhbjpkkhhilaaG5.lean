/- Texts joined for the claims: C2 SS7 W4 Bits W1h W5 W6 W9. -/
import Derived.Test.YtplhbjpkkhhilaaG4
import Derived.Test.YtplhbjpkkhhilaaG3
import Derived.Deep.DeepCutAuto
import Derived.Test.YtplhbjpkkhhilaaG2
import Derived.Test.YtplhbjpkkhhilaaG1
import Derived.Laws.StructEq
/- l2Copy: a tree in new memory, by the reference. -/
namespace Go.Proofs.Ytplhbjpkkhhilaa
set_option linter.unusedSimpArgs false
set_option linter.unusedVariables false
open Go.RowKit

abbrev E0 : Obj := .cells #[] TSp (0, 0)
theorem own_e (w : World) {lo : Nat} (h : lo ≤ w.heap.size) : (w.alloc E0).ownsRow lo TSp 2 (.slice (some ⟨w.heap.size, 0, none⟩) 0 0) 0 [] :=
  ⟨rfl, .inr ⟨w.heap.size, 0, #[], rfl, h, heap_alloc_new w _, Nat.le_refl _, by unfold maxLen; omega, rfl, rfl⟩⟩
theorem vblk_of_some' {g n c : Nat} : vblk (.slice (some ⟨g, 0, none⟩) n c) = [g] := rfl
theorem hv2 {vS : Value} {n H g : Nat} (hat : ∀ b, b ∈ vblk vS → b ∈ vblk (.slice (some ⟨n, 0, none⟩) 0 0) ∨ b = H) (h1 : g ≠ n) (h2 : g ≠ H) : g ∉ vblk vS := fun h => by
  rcases hat g h with e | e
  · rw [vblk_of_some'] at e; simp at e; exact h1 e
  · exact h2 e
/-- what the first statement leaves -/
structure LitMid (wb wx : World) (g : Nat) (k : Int) (s : List Sp) (vS : Value) : Prop where
  blk : Blk wx g #[.int .i64 k, vS, nilS] TRx
  set : OwnSp wx wb.heap.size vS s
  bel : Below wb.heap.size wb wx
  gS : g ∉ vblk vS
  gl : wb.heap.size ≤ g
def LitMidP (wb : World) (k : Int) (s : List Sp) (v : Value) (wx : World) : Prop := ∃ g vS, v = .pointer (some ⟨g, 0, none⟩) ∧ LitMid wb wx g k s vS

theorem lit1 {wa wB : World} {k : Int} {s : List Sp} {vS : Value} (hl : s.length ≤ maxN) (OS : wB.ownsRow wa.heap.size TSp 2 vS s.length (spcs s)) (BS : Below wa.heap.size wa wB) :
    LitMidP wa k s (.pointer (some ⟨wB.heap.size, 0, none⟩)) (wB.alloc (.cells #[.int .i64 k, vS, nilS] TRx (0, 0))) := by
  have e1 := own_vlt OS
  refine ⟨_, vS, rfl, blk_new _ _ _, ⟨own_below OS (below_alloc (Below.refl _ _) _), hl⟩, below_alloc BS _, fun h => ?_, BS.size⟩
  have := e1 _ h; omega
theorem lit2 {wa wB : World} {k : Int} {s : List Sp} {vS : Value} {g : Nat} (hl : s.length ≤ maxN) (OS : wB.ownsRow wa.heap.size TSp 2 vS s.length (spcs s)) (BS : Below wa.heap.size wa wB) (hZ : Blk wB g #[.int .i64 0, nilS, nilS] TRx) (hg : wa.heap.size ≤ g) (hv : g ∉ vblk vS) :
    LitMidP wa k s (.pointer (some ⟨g, 0, none⟩)) (((wB.setCell ⟨g, 0, none⟩ (.int .i64 k)).setCell ⟨g, 1, none⟩ vS).setCell ⟨g, 2, none⟩ nilS) := by
  have far : ∀ b, b ≠ g → (((wB.setCell ⟨g, 0, none⟩ (.int .i64 k)).setCell ⟨g, 1, none⟩ vS).setCell ⟨g, 2, none⟩ nilS).heap[b]? = wB.heap[b]? := fun b hb =>
    (Below.heap_setCell _ _ _ _ hb).trans ((Below.heap_setCell _ _ _ _ hb).trans (Below.heap_setCell _ _ _ _ hb))
  exact ⟨g, vS, rfl, by simpa using ((hZ.set 0 (.int .i64 k)).set 1 vS).set 2 nilS, ⟨own_move OS fun b h => far b (fun e => hv (e ▸ mem_vblk.2 h)), hl⟩, below_set (below_set (below_set BS hg _) hg _) hg _, hv, hg⟩

/-- a row of trees that grows -/
structure KApp (w : World) (lo : Nat) (ks : List Rex) (j : Nat) (v : Value) (L : List KInfo) : Prop where
  own : w.ownsRow lo TRx 3 v j (kcells (ks.take j) L)
  len : L.length = j
  le : j ≤ ks.length
  hr : ∀ (i : Nat) (r : Rex) (x : KInfo), ks[i]? = some r → L[i]? = some x → OwnT w x.fp r x.v1 x.v2
  nd : (vblk v ++ fps L).Nodup
  lo : ∀ b, b ∈ vblk v ++ fps L → lo ≤ b
theorem KApp.first (w : World) (lo : Nat) (ks : List Rex) : KApp w lo ks 0 nilS [] :=
  ⟨by simpa [kcells] using World.ownsRow_nil w lo TRx 3, rfl, Nat.zero_le _, fun i r x _ h => by simp at h, by simp [fps, vblk_nil], fun b hb => by simp [fps, vblk_nil] at hb⟩
theorem KApp.lt {w : World} {lo : Nat} {ks : List Rex} {j : Nat} {v : Value} {L : List KInfo} (h : KApp w lo ks j v L) : ∀ b, b ∈ vblk v ++ fps L → b < w.heap.size := by
  intro b hb
  rcases List.mem_append.1 hb with hb | hb
  · exact (own_vlt h.own b hb).2
  · obtain ⟨i, x, hx, hb⟩ := mem_fps.1 hb
    have hi := (List.getElem?_eq_some_iff.1 hx).1
    have hl := h.len
    have hle := h.le
    exact (h.hr i (ks[i]'(by omega)) x (List.getElem?_eq_getElem _) hx).lt b hb
theorem KApp.snoc {wr wD wE : World} {lo : Nat} {ks : List Rex} {j : Nat} {v v' : Value} {L : List KInfo} {r : Rex} {fp : List Nat} {v1 v2 : Value} {O : Obj} {g o : Nat} {u : Value} (h : KApp wr lo ks j v L) (hr : ks[j]? = some r) (b2 : Below wr.heap.size wr wD)
    (ho : OwnT wD fp r v1 v2) (hf : ∀ b, b ∈ fp → wr.heap.size ≤ b) (hn : fp.Nodup) (he : wE.ownsRow lo TRx 3 v' (j + 1) (kcells (ks.take j) L ++ [.int .i64 r.kind, v1, v2])) (hg : (wD.alloc O).grownBy wE v.ownBlock)
    (hat : ∀ b, b ∈ vblk v' → b ∈ vblk v ∨ b = (wD.alloc O).heap.size) (hgl : g < lo) (hlo : lo ≤ wr.heap.size) : KApp (wE.setCell ⟨g, o, none⟩ u) lo ks (j + 1) v' (L ++ [⟨fp, v1, v2⟩]) := by
  have hj := (List.getElem?_eq_some_iff.1 hr).1
  have hlen := h.len
  have hlt := h.lt
  obtain ⟨n1, n2, n3⟩ := List.nodup_append.1 h.nd
  have hz : (wD.alloc O).heap.size = wD.heap.size + 1 := by simp
  rw [hz] at hat
  have hzD := b2.size
  have stay : ∀ b, b < wD.heap.size → b ∉ vblk v → b ≠ g → (wE.setCell ⟨g, o, none⟩ u).heap[b]? = wD.heap[b]? := fun b hb hv hbg =>
    (Below.heap_setCell _ _ _ _ hbg).trans ((hg.block b (by rw [hz]; omega) fun e => hv (mem_vblk.2 e.symm)).trans ((below_alloc (Below.refl wD.heap.size wD) O).block b hb))
  refine ⟨?_, by simp [hlen], hj, ?_, ?_, ?_⟩
  · have e : kcells (ks.take (j + 1)) (L ++ [⟨fp, v1, v2⟩]) = kcells (ks.take j) L ++ [.int .i64 r.kind, v1, v2] := by
      rw [List.take_add_one, hr]
      exact kcells_append _ _ _ ⟨fp, v1, v2⟩ (by rw [List.length_take]; omega)
    rw [e]
    exact own_move he fun b hb => Below.heap_setCell _ _ _ _ (fun e => by have := (own_vlt he b (mem_vblk.2 hb)).1; have e' : b = g := e; omega)
  · intro i r' x hi hx
    by_cases e : i < L.length
    · rw [List.getElem?_append_left e] at hx
      have hT := h.hr i r' x hi hx
      refine (hT.under b2).stay fun b hb => stay b (Nat.lt_of_lt_of_le (hT.lt b hb) hzD) (fun hv => n3 b hv b (mem_fps.2 ⟨i, x, hx, hb⟩) rfl) fun eg => ?_
      have := h.lo b (by simp [mem_fps.2 ⟨i, x, hx, hb⟩])
      omega
    · have e2 : i = L.length := by
        have := (List.getElem?_eq_some_iff.1 hx).1
        simp at this
        omega
      subst e2
      rw [hlen, hr] at hi
      obtain rfl := Option.some.inj hi
      simp at hx
      subst hx
      refine ho.stay fun b hb => stay b (ho.lt b hb) (fun hv => ?_) fun eg => ?_
      · have := (own_vlt h.own b hv).2; have := hf b hb; omega
      · have := hf b hb; omega
  · have e : fps (L ++ [⟨fp, v1, v2⟩]) = fps L ++ fp := by rw [fps_append]; simp [fps]
    rw [e]
    refine List.nodup_append.2 ⟨vblk_nodup _, List.nodup_append.2 ⟨n2, hn, fun a ha b hb eq => ?_⟩, fun a ha b hb eq => ?_⟩
    · have := hlt a (by simp [ha]); have := hf b hb; omega
    · subst eq
      rcases hat a ha with hv | hv
      · rcases List.mem_append.1 hb with hb | hb
        · exact n3 a hv a hb rfl
        · have := (own_vlt h.own a hv).2; have := hf a hb; omega
      · rcases List.mem_append.1 hb with hb | hb
        · have := hlt a (by simp [hb]); omega
        · have := ho.lt a hb; omega
  · have e : fps (L ++ [⟨fp, v1, v2⟩]) = fps L ++ fp := by rw [fps_append]; simp [fps]
    rw [e]
    intro b hb
    rcases List.mem_append.1 hb with hb | hb
    · exact (own_vlt he b hb).1
    · rcases List.mem_append.1 hb with hb | hb
      · exact h.lo b (by simp [hb])
      · exact Nat.le_trans hlo (hf b hb)
theorem KApp.done {w : World} {lo : Nat} {ks : List Rex} {j : Nat} {v : Value} {L : List KInfo} (h : KApp w lo ks j v L) (hj : j = ks.length) (hn : ks.length ≤ maxN) : OwnK w (vblk v ++ fps L) ks v L := by
  subst hj
  have e := h.own
  rw [List.take_length] at e
  exact ⟨h.len.symm, own_lower e (Nat.zero_le _), hn, h.hr, rfl, h.nd⟩
def SCopyOk (r : Rex) : Prop := ∀ (v1 v2 : Value) (w : World) (lo : Nat), RexV w lo r (.int .i64 r.kind) v1 v2 → r.size ≤ 1073741824 →
  Calls Try.prog 68 #[.agg #[.int .i64 r.kind, v1, v2]] w (CopyPost r.kind r.set r.kids w)

def SCopyOk' (r : Rex) : Prop := ∀ (v1 v2 : Value) (w : World) (lo : Nat), RexV w lo r (.int .i64 r.kind) v1 v2 → r.size ≤ 1073741824 →
  Calls Try.prog 68 #[.agg #[.int .i64 r.kind, v1, v2]] w fun e w' => ∃ v, e = .returned v ∧ ∃ u1 u2 fp, v = .agg #[.int .i64 r.kind, u1, u2] ∧ OwnT w' fp (.mk r.kind r.set r.kids) u1 u2 ∧ fp.Nodup ∧ (∀ b, b ∈ fp → w.heap.size ≤ b) ∧ Below w.heap.size w w'
set_option maxRecDepth 100000 in
set_option maxHeartbeats 4000000 in
theorem sCopy_c (r : Rex) : SCopyOk r := by
  refine Rex.ind (p := SCopyOk) (fun k s ks ih => ?_) r
  have ih' : ∀ r, r ∈ ks → SCopyOk' r := fun r hr v1 v2 w lo h hsz => (ih r hr v1 v2 w lo h hsz).mono fun e w' ⟨u1, u2, fp, he, rest⟩ => ⟨_, he, u1, u2, fp, rfl, rest⟩
  intro v1 v2 w lo h hsz
  obtain ⟨A, c, K, ck, _, rfl, rfl, hs, hk⟩ := h.parts
  dsimp only [Rex.kind, Rex.set, Rex.kids] at hs hk ⊢
  rw [Rex.size] at hsz
  clear h
  obtain ⟨wa, hwa⟩ : ∃ x, x = (w.alloc (.cells #[.int .i64 k, .slice A s.length c, .slice K ks.length ck] TRx)).alloc (.cells #[.int .i64 0, nilS, nilS] TRx) := ⟨_, rfl⟩
  have hb : Below w.heap.size w wa := by rw [hwa]; exact below_alloc (below_alloc (Below.refl _ _) _) _
  have m0 : Blk wa w.heap.size #[.int .i64 k, .slice A s.length c, .slice K ks.length ck] TRx := by rw [hwa]; exact (blk_new w _ _).alloc _
  have m1 : Blk wa (w.heap.size + 1) #[.int .i64 0, nilS, nilS] TRx := by
    rw [hwa]
    have := blk_new (w.alloc (.cells #[.int .i64 k, .slice A s.length c, .slice K ks.length ck] TRx)) #[.int .i64 0, nilS, nilS] TRx
    simpa using this
  have hz1 : w.heap.size + 1 < wa.heap.size := m1.lt
  replace hwa := hwa.symm
  have HB := Lib.hid hb
  have M0 := Lib.hid m0
  have M1 := Lib.hid m1
  have HS := Lib.hid (hs.below hb)
  have HK := Lib.hid (hk.below hb)
  clear hb m0 m1 hs hk
  have HM : Hid (∀ w', Below wa.heap.size wa w' → w'.cell? ⟨w.heap.size, 0, none⟩ = some (.int .i64 k) ∧ w'.cell? ⟨w.heap.size, 1, none⟩ = some (.slice A s.length c)) := fun w' hb =>
    ⟨by rw [(M0.out.below hb).cell]; rfl, by rw [(M0.out.below hb).cell]; rfl⟩
  obtain ⟨i0, hi, hz0, hza, hz2⟩ := info_parts infoSp
  have BW1 : Hid (Below wa.heap.size wa (wa.alloc E0).drew) := below_drew (below_alloc (Below.refl _ _) _)
  have BW2 : Hid (Below wa.heap.size wa ((wa.alloc E0).alloc Z0).drew) := below_drew (below_alloc (below_alloc (Below.refl _ _) _) _)
  have BW3 : Hid (Below wa.heap.size wa ((wa.alloc Z0).alloc E0).drew) := below_drew (below_alloc (below_alloc (Below.refl _ _) _) _)
  have OW1 : Hid ((wa.alloc E0).drew.ownsRow wa.heap.size TSp 2 (.slice (some ⟨wa.heap.size, 0, none⟩) 0 0) 0 []) := own_below (own_e wa (Nat.le_refl _)) (below_drew (Below.refl _ _))
  have OW2 : Hid (((wa.alloc E0).alloc Z0).drew.ownsRow wa.heap.size TSp 2 (.slice (some ⟨wa.heap.size, 0, none⟩) 0 0) 0 []) := own_below (own_e wa (Nat.le_refl _)) (below_drew (below_alloc (Below.refl _ _) _))
  have OW3 : Hid (((wa.alloc Z0).alloc E0).drew.ownsRow wa.heap.size TSp 2 (.slice (some ⟨wa.heap.size + 1, 0, none⟩) 0 0) 0 []) := by
    have := own_below (own_e (wa.alloc Z0) (lo := wa.heap.size) (by simp)) (below_drew (Below.refl _ _))
    rw [show (wa.alloc Z0).heap.size = wa.heap.size + 1 by simp] at this
    exact this
  have ZW2 : Hid (Blk ((wa.alloc E0).alloc Z0).drew (wa.heap.size + 1) #[.int .i64 0, nilS, nilS] TRx) := by
    have := (blk_new (wa.alloc E0) #[.int .i64 0, nilS, nilS] TRx).below (below_drew (Below.refl _ _))
    rw [show (wa.alloc E0).heap.size = wa.heap.size + 1 by simp] at this
    exact this
  have ZW3 : Hid (Blk ((wa.alloc Z0).alloc E0).drew wa.heap.size #[.int .i64 0, nilS, nilS] TRx) := (((blk_new wa #[.int .i64 0, nilS, nilS] TRx).alloc _).below (below_drew (Below.refl _ _)))
  go_enter Try.func68, Try.ntmps68
  go_upto_region 1 with fail
  clear hwa
  go_cut [3] (fun s3 wx => LitMidP wa k s s3 wx)
  case first =>
    go_region_held3 (fun w' => Below wa.heap.size wa w' ∧ w'.cell? ⟨w.heap.size, 0, none⟩ = some (.int .i64 k) ∧ w'.cell? ⟨w.heap.size, 1, none⟩ = some (.slice A s.length c))
      ((refine (fun h => ⟨h, HM.out _ h⟩ : Below wa.heap.size wa _ → _) ?_; (repeat (first | exact BB.out | exact Below.refl _ _ | exact below_drew (Below.refl _ _) | refine below_alloc ?_ _ | refine below_drew ?_ | refine below_set ?_ (by first | exact Nat.le_refl _ | exact BB.out.size | exact Nat.le_succ _) _))))
      ((refine step_append_row (by rfl) (.tmp 7) (.tmp 9) 27 (by rfl) wa.heap.size TSp i0 (.agg #[.int .i64 0, .int .i64 0]) 2 16 Try.underlying27 hi hz0 hza hz2 rfl (by decide) _ 0 [] (by rfl) (by first | exact OW1.out | exact OW2.out | exact OW3.out) A s.length c (spcs s) (by rfl) (HS.out.below (by first | exact BW1.out | exact BW2.out | exact BW3.out)).row (spcs_length _) (spcs_one _) (by unfold maxLen; omega) (by omega) (by first | exact BW1.out.size | exact BW2.out.size | exact BW3.out.size) _ rfl s.length (Nat.zero_add _) ?_; intro A1 c1 wB hown hgrow hat; have OS : Hid (wB.ownsRow wa.heap.size TSp 2 (.slice A1 s.length c1) s.length (spcs s)) := hown; (first | have BB := Lib.hid (BW1.out.grown (show (wa.alloc E0).drew.grownBy wB (some wa.heap.size) from hgrow) BW1.out.size (fun k hk => by injection hk with hk; omega)) | (have g2 : ((wa.alloc E0).alloc Z0).drew.grownBy wB (some wa.heap.size) := hgrow; have BB := Lib.hid (BW2.out.grown g2 BW2.out.size (fun k hk => by injection hk with hk; omega)); have Z := ZW2.out.grown g2 (fun k hk => by injection hk with hk; omega); have HV : Hid (wa.heap.size + 1 ∉ vblk (.slice A1 s.length c1)) := hv2 (n := wa.heap.size) hat (by omega) (by first | (simp; done) | (simp; omega)); clear g2) | (have g3 : ((wa.alloc Z0).alloc E0).drew.grownBy wB (some (wa.heap.size + 1)) := hgrow; have BB := Lib.hid (BW3.out.grown g3 BW3.out.size (fun k hk => by injection hk with hk; omega)); have Z := ZW3.out.grown g3 (fun k hk => by injection hk with hk; omega); have HV : Hid (wa.heap.size ∉ vblk (.slice A1 s.length c1)) := hv2 (n := wa.heap.size + 1) hat (by omega) (by first | (simp; done) | (simp; omega)); clear g3)); (first | (have z0 := (Z.cell 0).trans rfl; have z1 := (Z.cell 1).trans rfl; have z2 := (Z.cell 2).trans rfl; have f0 := Z.free 0; have f1 := Z.free 1; have f2 := Z.free 2; have HZ := Lib.hid Z; clear Z) | skip); clear hown hgrow hat))
    all_goals
      go_wp2_with fail
      go_meet
      first
        | exact lit1 HS.out.len OS.out BB.out
        | exact lit2 HS.out.len OS.out BB.out HZ.out (by omega) HV.out
  case rest =>
    obtain ⟨g, vS, rfl, hm⟩ := hcut
    have hgl := hm.gl
    obtain ⟨A1, c1, eS, _⟩ := hm.set.sps
    subst eS
    have HBG := Lib.hid hm.blk
    have HOS := Lib.hid hm.set
    have HBE := Lib.hid hm.bel
    have HGS := Lib.hid hm.gS
    have hgc : g < wc.heap.size := hm.blk.lt
    have hzc : wa.heap.size ≤ wc.heap.size := hm.bel.size
    have HVS : Hid (∀ b, b ∈ vblk (.slice A1 s.length c1) → b < wc.heap.size) := fun b hb => (hm.set.lt b hb).2
    have HM1 := Lib.hid (M1.out.below hm.bel)
    have HM0 := Lib.hid (M0.out.below hm.bel)
    have hlen : ks.length ≤ 1073741824 := by omega
    clear hm HM HS M0 M1 OW1 OW2 OW3 BW1 BW2 BW3 ZW2 ZW3 hi hz0 hza hz2
    obtain ⟨i1, hi, hz0, hza, hz2⟩ := info_parts infoRx
    go_wp2_with fail
    go_loopg [4] (ks.length) (fun n i wr => ∃ j : Nat, j + n = ks.length ∧ i = .int .i64 j ∧ ∃ (A2 : Option Addr) (c2 : Nat) (L : List KInfo), Hid (KApp wr wc.heap.size ks j (.slice A2 j c2) L) ∧
      Hid (Blk wr g #[.int .i64 k, .slice A1 s.length c1, .slice A2 j c2] TRx) ∧ Hid (OwnSp wr wa.heap.size (.slice A1 s.length c1) s) ∧ Hid (Below wa.heap.size wa wr) ∧ Hid (Blk wr (w.heap.size + 1) #[.int .i64 0, nilS, nilS] TRx) ∧ Hid (Blk wr w.heap.size #[.int .i64 k, .slice A s.length c, .slice K ks.length ck] TRx) ∧ Hid (wc.heap.size ≤ wr.heap.size))
    case atStart => exact ⟨0, by omega, rfl, none, 0, [], KApp.first _ _ _, HBG, HOS, HBE, HM1, HM0, Nat.le_refl _⟩
    case round =>
      clear HBG HOS HBE HM1 HM0
      obtain ⟨j, hj, rfl, A2, c2, L, HX, HBG, HOS, HBE, HM1, HM0, HWZ⟩ := hrel
      have n2 : wr.cell? ⟨g, 2, none⟩ = some (.slice A2 j c2) := by rw [HBG.out.cell]; rfl
      have m2 : wr.cell? ⟨w.heap.size, 2, none⟩ = some (.slice K ks.length ck) := by rw [HM0.out.cell]; rfl
      by_cases hlt : j < ks.length
      · obtain ⟨a, r, x1, x2, rfl, HR, HD, HV, d0, d1, d2⟩ := (HK.out.below HBE.out).at_ j hlt
        obtain ⟨A3, c3, K3, e3, _, rfl, rfl, _⟩ := HV.out.parts
        have hmem := List.mem_of_getElem? HR.out
        have hks := size_kid hmem
        have HOW := Lib.hid HX.out.own
        have HVK : Hid (∀ b, b ∈ vblk (.slice A2 j c2) → wc.heap.size ≤ b) := fun b hb => HX.out.lo b (by simp [hb])
        have HBB : Hid (∀ q, (Value.slice A2 j c2).ownBlock = some q → q ≠ g) := fun q hq e => by have := HVK.out q (mem_vblk.2 hq); omega
        go_wp2
        go_region_law (first
          | (refine step_append_row (by rfl) (.tmp 20) (.tmp 27) 32 (by rfl) wc.heap.size TRx i1 (.agg #[.int .i64 0, nilS, nilS]) 3 56 Try.underlying32 hi hz0 hza hz2 rfl (by decide) (.slice A2 j c2) j (kcells (ks.take j) L) (by rfl) (own_below (own_below HOW.out BD.out) (below_alloc (Below.refl _ _) _)) (some ⟨wD.heap.size, 0, none⟩) 1 1 [.int .i64 r.kind, .slice A4 r.set.length c4, .slice K4 r.kids.length d4] (by rfl) (.inr ⟨⟨wD.heap.size, 0, none⟩, rfl, Nat.zero_le _, new_cells wD [.int .i64 r.kind, .slice A4 r.set.length c4, .slice K4 r.kids.length d4] TRx⟩) rfl (three_one _ _ _ _ _ _ _) (by unfold maxLen; omega) (by omega) (by simp; omega) _ rfl (j + 1) rfl ?_; intro A5 c5 wE hown hgrow hat; have HE := Lib.hid hown; have HG := Lib.hid hgrow; have HAT := Lib.hid hat; have ZB := ((HBG.out.below BD.out).alloc (.cells #[.int .i64 r.kind, .slice A4 r.set.length c4, .slice K4 r.kids.length d4] TRx)).grown hgrow HBB.out; have q2 := (ZB.cell 2).trans rfl; have f2 := ZB.free 2; have HZB := Lib.hid ZB; clear ZB hown hgrow hat)
          | (refine step_call (by rfl) 68 _ _ (by rfl) _ Try.func68 (by kernel_rfl) (by kernel_rfl) #[.agg #[.int .i64 r.kind, .slice A3 r.set.length c3, .slice K3 r.kids.length e3]] (by rfl) (ih' r hmem _ _ _ _ (HV.out.under (below_drew (Below.refl _ _))) (by omega)) ?_; rintro _ wD ⟨u1, u2, fp, rfl, ho, hnd, hf, b3⟩; rw [← Rex.eta r] at ho; obtain ⟨L4, fk4, _, _, hos4, hok4⟩ := ho.parts; obtain ⟨A4, c4, rfl, _⟩ := hos4.sps; obtain ⟨K4, d4, rfl, _, _⟩ := own_row hok4.hk; clear hos4 hok4; have BD : Hid (Below wr.heap.size wr wD) := below_then (below_drew (Below.refl _ _)) b3; have HO := Lib.hid ho; have HND := Lib.hid hnd; have HF : Hid (∀ b, b ∈ fp → wr.heap.size ≤ b) := hf; have hzD : wc.heap.size ≤ wD.heap.size := Nat.le_trans HWZ.out BD.out.size; clear ho hnd hf b3; have y2 := (((HBG.out.below BD.out).cell 2).trans rfl : wD.cell? ⟨g, 2, none⟩ = some (.slice A2 j c2)); have ya := fun o => cell_alloc y2 o))
        all_goals
          clear y2 ya q2 f2 n2 m2 d0 d1 d2
          go_wp2
          go_roundg (gk - 1)
          case rel =>
            have hgE : Hid (Below wr.heap.size wr wD) := BD.out
            have keep : ∀ b, b < wc.heap.size → b ≠ g → (wE.setCell ⟨g, 2, none⟩ (.slice A5 (j + 1) c5)).heap[b]? = wr.heap[b]? := fun b hb hne =>
              (Below.heap_setCell _ _ _ _ hne).trans ((HG.out.block b (by simp; omega) fun e => by have := HVK.out b (mem_vblk.2 e.symm); omega).trans (((below_alloc (Below.refl wD.heap.size wD) _).block b (by omega)).trans (BD.out.block b (Nat.lt_of_lt_of_le hb HWZ.out))))
            have hsz : wc.heap.size ≤ (wE.setCell ⟨g, 2, none⟩ (.slice A5 (j + 1) c5)).heap.size := by
              simp only [World.size_setCell]
              exact Nat.le_trans hzD (Nat.le_trans (by simp) HG.out.size)
            refine ⟨j + 1, by omega, by go_num, A5, c5, _, HX.out.snoc HR.out BD.out HO.out HF.out HND.out HE.out HG.out HAT.out hgc HWZ.out, Lib.hid (by simpa using HZB.out.set 2 (.slice A5 (j + 1) c5)), HOS.out.stay fun b hb => keep b (HVS.out b hb) fun e => HGS.out (e ▸ hb), ?_, ⟨(keep _ (by omega) (by omega)).trans HM1.out.eq⟩, ⟨(keep _ (by omega) (by omega)).trans HM0.out.eq⟩, hsz⟩
            refine ((below_then HBE.out (below_then BD.out ((below_alloc (Below.refl wD.heap.size wD) _)))).grown HG.out (by simp; omega) fun q hq => ?_) |> fun hb => below_set hb hgl _
            have := HVK.out q (mem_vblk.2 hq)
            omega
          case measure => omega
      · have hj' : j = ks.length := by omega
        subst hj'
        have HOK := Lib.hid (HX.out.done rfl (by unfold maxN; omega))
        have HFK : Hid (∀ b, b ∈ vblk (.slice A2 ks.length c2) ++ fps L → wa.heap.size ≤ b ∧ b ∉ vblk (.slice A1 s.length c1)) := fun b hb => ⟨Nat.le_trans hzc (HX.out.lo b hb), fun h => by have h1 := HX.out.lo b hb; have h2 := HVS.out b h; omega⟩
        have HM1' := HM1
        clear hj HX n2
        go_wp2_with (first
          | (refine ev_load (o := ⟨some 30, _, _, _, _, _⟩) rfl TRx _ rfl g rfl [.int .i64 k, .slice A1 s.length c1, .slice A2 ks.length c2] TRx HBG.out _ Try.underlying34 rfl (sizeRx' _ _ _) ?_)
          | (refine ev_store (o := ⟨none, .store _ (.tmp 2) _, _, _, _, _⟩) rfl rfl TRx (.tmp 2) (.tmp 30) rfl (w.heap.size + 1) 0 rfl [.int .i64 k, .slice A1 s.length c1, .slice A2 ks.length c2] rfl _ TRx HM1.out (sizeRx' _ _ _) (by show 0 + 3 ≤ 3; omega) (three_one _ _ _ _ _ _ _) ?_; intro w5 hX5 hg5; have HX5 : Hid (Blk w5 (w.heap.size + 1) #[.int .i64 k, .slice A1 s.length c1, .slice A2 ks.length c2] TRx) := hX5; have HG5 := Lib.hid hg5; clear hX5 hg5))
        refine bodyPost_ret (results_cell_row rfl _ _ (w.heap.size + 1) TRx _ (0, 0) _ rfl HX5.out.eq Try.underlying34 rfl (by rw [sizeRx]; rfl)) rfl ?_
        exact copy_fin hz1 HB.out HOS.out HOK.out HBE.out HFK.out HG5.out

end Go.Proofs.Ytplhbjpkkhhilaa

/- l2Sets, RexSets of the reference. -/
namespace Go.Proofs.Ytplhbjpkkhhilaa
set_option linter.unusedSimpArgs false
set_option linter.unusedVariables false
open Go.RowKit

theorem own_ee (w : World) : OwnSS (w.alloc (.cells #[] TSS)) [w.heap.size] (.slice (some ⟨w.heap.size, 0, none⟩) 0 0) [] [] :=
  ⟨rfl, ⟨rfl, .inr ⟨w.heap.size, 0, #[], rfl, Nat.zero_le _, heap_alloc_new w _, Nat.le_refl _, by unfold maxLen; omega, rfl, rfl⟩⟩, by simp, fun i xs x h => by simp at h, rfl, by simp⟩

theorem OwnSS.touch {w w' : World} {fp f : List Nat} {v : Value} {xss : List (List Sp)} {L : List Value} (h : OwnSS w fp v xss L) (ht : Touch f w w') (hd : ∀ b, b ∈ fp → b ∉ f) : OwnSS w' fp v xss L := h.stay fun b hb => ht.block b (h.lt b hb) (hd b hb)
end Go.Proofs.Ytplhbjpkkhhilaa

/- same, the two SetSame, the two MatchWord. -/
namespace Go.Proofs.Ytplhbjpkkhhilaa
set_option linter.unusedSimpArgs false
set_option linter.unusedVariables false
open Go.RowKit

theorem uSp : Try.prog.underlying TSp = some (.struct (Try.prog.fieldsOf TSp)) := by kernel_rfl
theorem sSp : Try.prog.stoodInHeld TSp = false := by kernel_rfl
theorem gSp : Try.prog.eqGuardType Try.prog.depth TSp = false := by kernel_rfl
theorem fSp : (Try.prog.fieldsOf TSp).toList.map (fun f => (f.name == "_", f.type, f.offset)) = [(false, 3, 0), (false, 3, 1)] := by kernel_rfl
theorem neqSp (x y : Sp) (w : World) : (binOp .neq TSp (.agg #[.int .i64 x.lo, .int .i64 x.hi]) (.agg #[.int .i64 y.lo, .int .i64 y.hi])).run Try.prog w = .ok (.bool (!decide (x = y))) w := by
  rw [run_neq_struct, run_equalIn_struct (P := Try.prog) w 9999 TSp _ _ uSp sSp]
  have hf := fSp
  generalize (Try.prog.fieldsOf TSp).toList = l at hf
  obtain ⟨f0, f1, rfl⟩ : ∃ f0 f1, l = [f0, f1] := by
    have := congrArg List.length hf
    rw [List.length_map] at this
    rcases l with _ | ⟨f0, _ | ⟨f1, _ | ⟨f2, l⟩⟩⟩ <;> simp at this
    exact ⟨f0, f1, rfl⟩
  · simp only [List.map_cons, List.map_nil, List.cons.injEq, Prod.mk.injEq, and_true] at hf
    obtain ⟨⟨n0, t0, o0⟩, n1, t1, o1⟩ := hf
    have n0' : ¬ f0.name = "_" := by simpa using n0
    have n1' : ¬ f1.name = "_" := by simpa using n1
    have p0 : ∀ a b : Int, (part 3 #[.int .i64 a, .int .i64 b] 0).run Try.prog w = .ok (.int .i64 a) w := by
      intro a b
      kernel_rfl
    have p1 : ∀ a b : Int, (part 3 #[.int .i64 a, .int .i64 b] 1).run Try.prog w = .ok (.int .i64 b) w := by
      intro a b
      kernel_rfl
    have q : ∀ a b : Int, (Op.equalIn 9999 3 (.int .i64 a) (.int .i64 b)).run Try.prog w = .ok (a == b) w := fun a b => run_equalIn_int w 9998 _ _ .i64 a b Try.underlying3
    simp only [Op.eqFields, ne_eq, n0', n1', not_false_eq_true, if_true, Sem.run_bind, t0, t1, o0, o1, p0, p1, q, Result.andThen_ok]
    by_cases c0 : x.lo = y.lo
    · by_cases c1 : x.hi = y.hi
      · have e : x = y := by cases x; cases y; simp at c0 c1; rw [c0, c1]
        subst e
        simp [p1, q]
      · have e : x ≠ y := by rintro rfl; exact c1 rfl
        simp [c0, c1, e, p1, q]
    · have e : x ≠ y := by rintro rfl; exact c0 rfl
      simp [c0, e]

set_option maxHeartbeats 1000000 in
theorem same_c (A B : Option Addr) (c d : Nat) (xs ys : List Sp) (w : World) {lo lo' : Nat} (h : Sps w lo A c xs) (h' : Sps w lo' B d ys) :
    Calls Try.prog 50 #[.slice A xs.length c, .slice B ys.length d] w fun e w' => e = .returned (.bool (decide (xs = ys))) ∧ Drawn w w' := by
  have hlen := h.len
  have hlen' := h'.len
  unfold maxN at hlen hlen'
  by_cases he : xs.length = ys.length
  · have b1 : ((xs.length : Int) != (ys.length : Int)) = false := by simp [he]
    have HE : Hid (xs.length = ys.length) := he
    clear he
    go_enter Try.func50, Try.ntmps50
    go_wp2
    go_loopg [13] (xs.length) (fun n i wr => ∃ k : Nat, k + n = xs.length ∧ i = .int .i64 k ∧ Hid (decide (xs.drop k = ys.drop k) = decide (xs = ys)) ∧ Drawn w wr)
    case atStart => exact ⟨0, by omega, rfl, by rw [List.drop_zero, List.drop_zero]; rfl, Drawn.refl _⟩
    case round =>
      obtain ⟨k, hk, rfl, HS, m, rfl⟩ := hrel
      by_cases hlt : k < xs.length
      · have hlt' : k < ys.length := by have := HE.out; omega
        obtain ⟨a, x, rfl, _, HD, h0, h1⟩ := h.at_ k hlt
        obtain ⟨a', y, rfl, _, HD', h0', h1'⟩ := h'.at_ k hlt'
        have ST : Hid _ := drop_eq_step HD.out HD'.out HS.out
        have N0 := fun wx => neqSp x y wx
        have N1 := gSp
        go_wp2
        go_quiet (fail)
        go_wp2
        · go_ret
          exact ⟨ret_bool (ST.out.1 (by simpa using ‹(!decide (x = y)) = true›)).symm, drewN_drewN _ _ _⟩
        · go_roundg (gk - 1)
          case rel => exact ⟨k + 1, by omega, by go_num, ST.out.2 (by simpa using ‹(!decide (x = y)) = false›), ⟨_, rfl⟩⟩
          case measure => omega
      · go_wp2
        go_ret
        exact ⟨ret_bool (by rw [← HS.out, List.drop_of_length_le (by omega), List.drop_of_length_le (by have := HE.out; omega)]; rfl), _, rfl⟩
  · have b1 : ((xs.length : Int) != (ys.length : Int)) = true := by simp; omega
    have b2 : (xs.length == ys.length) = false := by simp [he]
    have C : Hid (decide (xs = ys) = false) := decide_eq_false (by rintro rfl; exact he rfl)
    clear he
    go_enter Try.func50, Try.ntmps50
    go_wp2
    go_ret
    exact ⟨ret_bool C.out.symm, Drawn.refl _⟩

end Go.Proofs.Ytplhbjpkkhhilaa

/- Sets as 256 bits in memory. -/
namespace Go.Proofs.Ytplhbjpkkhhilaa
set_option linter.unusedSimpArgs false
set_option linter.unusedVariables false
open Go.RowKit

/-! ### 256 bits -/
abbrev TBits : Nat := 58
def bitCells (f : Nat → Bool) : List Value := (List.range 256).map fun i => .bool (f i)
theorem bitCells_length (f : Nat → Bool) : (bitCells f).length = 256 := by simp [bitCells]
theorem bitCells_get (f : Nat → Bool) (i : Nat) (h : i < 256) : (bitCells f)[i]? = some (.bool (f i)) := by simp [bitCells, h]
theorem bitCells_congr {f g : Nat → Bool} (h : ∀ i, i < 256 → f i = g i) : bitCells f = bitCells g := by
  unfold bitCells
  exact List.map_congr_left fun i hi => by rw [h i (List.mem_range.1 hi)]
theorem bitCells_set (f : Nat → Bool) (k : Nat) (b : Bool) : (bitCells f).set k (.bool b) = bitCells fun i => if i = k then b else f i := by
  apply List.ext_getElem?
  intro j
  rw [List.getElem?_set]
  by_cases hj : j < 256
  · have e := bitCells_get (fun i => if i = k then b else f i) _ hj
    rw [e, bitCells_length]
    by_cases hk : k = j
    · subst hk
      simp [hj]
    · rw [if_neg hk, bitCells_get _ _ hj, if_neg (fun e => hk e.symm)]
  · rw [List.getElem?_eq_none (by rw [bitCells_length]; omega : (bitCells fun i => if i = k then b else f i).length ≤ j), bitCells_length, List.getElem?_eq_none (by rw [bitCells_length]; omega : (bitCells f).length ≤ j)]
    split
    · rw [if_neg (by omega)]
    · rfl
theorem bitCells_one (f : Nat → Bool) : ∀ u ∈ bitCells f, u.oneCell' = true := by
  intro u hu
  obtain ⟨i, _, rfl⟩ := List.mem_map.1 hu
  rfl
theorem infoBits : (Try.prog.info? TBits).map (·.zero) = some (some (.agg (bitCells fun _ => false).toArray)) := by kernel_rfl
theorem sizeBits : (Try.prog.info? TBits).map (·.size) = some 256 := by kernel_rfl
theorem uBits : Try.prog.underlying TBits = some (.array 256 4) := Try.underlying58
theorem sizeBits' (f : Nat → Bool) : (Try.prog.info? TBits).map (·.size) = some (bitCells f).length := by rw [sizeBits, bitCells_length]
/-- an element of such a value -/
theorem run_index_bits (f : Nat → Bool) (k : Nat) (hk : k < 256) (w : World) : (Instr.index TBits (.agg (bitCells f).toArray) (.int .i64 k)).run Try.prog w = .ok (.bool (f k)) w := by
  have hu : Try.prog.underlying TBits = some (.array 256 4) := Try.underlying58
  obtain ⟨i, hi, hz⟩ := Option.map_eq_some_iff.1 (show (Try.prog.info? 4).map (·.size) = some 1 by kernel_rfl)
  simp [Instr.index, asIntOf, run_underlying hu, hk, sizeOf, typeInfo, hi, hz, part, isAgg, run_underlying Try.underlying4, bitCells_get f k hk]

end Go.Proofs.Ytplhbjpkkhhilaa

/- in, SetHas. -/
namespace Go.Proofs.Ytplhbjpkkhhilaa
set_option linter.unusedSimpArgs false
set_option linter.unusedVariables false
open Go.RowKit

theorem in_c (n lo hi : Int) (w : World) :
    Calls Try.prog 51 #[.int .i64 n, .int .i64 lo, .int .i64 hi] w fun e w' => e = .returned (.bool (decide (lo ≤ n) && decide (n ≤ hi))) ∧ w = w' := by
  go_enter Try.func51, Try.ntmps51
  go_wp2
  all_goals go_ret
  · exact ⟨ret_bool (by rw [decide_eq_true (by assumption : lo ≤ n)]; rfl), rfl⟩
  · exact ⟨ret_bool (by rw [decide_eq_false (by omega : ¬ lo ≤ n)]; rfl), rfl⟩

theorem spIn_true {x : Sp} {b : Int} (h : x.lo ≤ b ∧ b ≤ x.hi) : spIn x b = true := (spIn_iff x b).2 h
theorem spIn_false {x : Sp} {b : Int} (h : b < x.lo ∨ x.hi < b) : spIn x b = false := by
  rw [Bool.eq_false_iff]
  intro hc
  have := (spIn_iff x b).1 hc
  omega

theorem iSetHas_c (A : Option Addr) (c : Nat) (xs : List Sp) (b : Int) (w : World) {lo : Nat} (h : Sps w lo A c xs) :
    Calls Try.prog 18 #[.slice A xs.length c, .int .i64 b] w fun e w' => e = .returned (.bool (setHas xs b)) ∧ Below w.heap.size w w' := by
  have hlen := h.len
  unfold maxN at hlen
  go_enter Try.func18, Try.ntmps18
  go_wp2
  go_loopg [9] (xs.length) (fun n i wr => ∃ k : Nat, k + n = xs.length ∧ i = .int .i64 k ∧ Hid (setHas (xs.drop k) b = setHas xs b) ∧ Below w.heap.size w wr)
  case atStart => exact ⟨0, by omega, rfl, by rw [List.drop_zero]; rfl, Below.refl _ _⟩
  case round =>
    obtain ⟨k, hk, rfl, HS, hb⟩ := hrel
    by_cases hlt : k < xs.length
    · obtain ⟨a, x, rfl, _, HD, h0, h1⟩ := (h.below hb).at_ k hlt
      go_wp2_with (go_at_call 51; refine (in_c _ _ _ _).mono ?_; rintro e w' ⟨rfl, rfl⟩)
      · go_ret
        exact ⟨ret_bool (by rw [← HS.out, HD.out, setHas_cons, spIn_true (by assumption)]; rfl), below_alloc hb _⟩
      · go_roundg (gk - 1)
        case rel => exact ⟨k + 1, by omega, by go_num, by rw [← HS.out, HD.out, setHas_cons, spIn_false (by assumption)]; rfl, below_alloc hb _⟩
        case measure => omega
    · go_wp2
      go_ret
      exact ⟨ret_bool (by rw [← HS.out, List.drop_of_length_le (by omega)]; rfl), hb⟩

theorem sSetHas_c (A : Option Addr) (c : Nat) (xs : List Sp) (b : Int) (w : World) {lo : Nat} (h : Sps w lo A c xs) :
    Calls Try.prog 81 #[.slice A xs.length c, .int .i64 b] w fun e w' => e = .returned (.bool (setHas xs b)) ∧ Drawn w w' := by
  have hlen := h.len
  unfold maxN at hlen
  go_enter Try.func81, Try.ntmps81
  go_wp2
  go_loopg [5] (xs.length) (fun n i wr => ∃ k : Nat, k + n = xs.length ∧ i = .int .i64 k ∧ Hid (setHas (xs.drop k) b = setHas xs b) ∧ Drawn w wr)
  case atStart => exact ⟨0, by omega, rfl, by rw [List.drop_zero]; rfl, 0, rfl⟩
  case round =>
    obtain ⟨k, hk, rfl, HS, n, rfl⟩ := hrel
    by_cases hlt : k < xs.length
    · obtain ⟨a, x, rfl, _, HD, h0, h1⟩ := h.at_ k hlt
      by_cases h2 : x.lo ≤ b
      · go_wp2
        · go_ret
          exact ⟨ret_bool (by rw [← HS.out, HD.out, setHas_cons, spIn_true ⟨h2, by assumption⟩]; rfl), n, rfl⟩
        · go_roundg (gk - 1)
          case rel => exact ⟨k + 1, by omega, by go_num, by rw [← HS.out, HD.out, setHas_cons, spIn_false (.inr (by omega))]; rfl, n, rfl⟩
          case measure => omega
      · go_wp2
        go_roundg (gk - 1)
        case rel => exact ⟨k + 1, by omega, by go_num, by rw [← HS.out, HD.out, setHas_cons, spIn_false (.inl (by omega))]; rfl, n, rfl⟩
        case measure => omega
    · go_wp2
      go_ret
      exact ⟨ret_bool (by rw [← HS.out, List.drop_of_length_le (by omega)]; rfl), n, rfl⟩

end Go.Proofs.Ytplhbjpkkhhilaa

/- bitsOf: the bits of a set. -/
namespace Go.Proofs.Ytplhbjpkkhhilaa
set_option linter.unusedSimpArgs false
set_option linter.unusedVariables false
open Go.RowKit

theorem bit_cell {w : World} {g : Nat} {f : Nat → Bool} (h : Blk w g (bitCells f).toArray TBits) (k : Nat) (hk : k < 256) : w.cell? ⟨g, k, none⟩ = some (.bool (f k)) := by
  rw [h.cell]
  simpa using bitCells_get f k hk
theorem bit_set {w : World} {g : Nat} {f : Nat → Bool} (h : Blk w g (bitCells f).toArray TBits) (k : Nat) (b : Bool) : Blk (w.setCell ⟨g, k, none⟩ (.bool b)) g (bitCells fun i => if i = k then b else f i).toArray TBits := by
  have := h.set k (.bool b)
  rw [show (bitCells f).toArray.setIfInBounds k (.bool b) = ((bitCells f).set k (.bool b)).toArray by simp, bitCells_set] at this
  exact this

set_option maxHeartbeats 1000000 in
set_option maxRecDepth 100000 in
theorem bitsOf_c (A : Option Addr) (c : Nat) (xs : List Sp) (w : World) {lo : Nat} (h : Sps w lo A c xs) :
    Calls Try.prog 45 #[.slice A xs.length c] w fun e w' => e = .returned (.agg (bitCells fun i => setHas xs i).toArray) ∧ Below w.heap.size w w' := by
  go_enter Try.func45, Try.ntmps45
  go_wp2_with (first
    | (with_reducible refine ev_alloc (o := ⟨some 2, _, _, _, _, _⟩) rfl TBits rfl _ infoBits ?_; rintro _ w2 rfl hB2 hb2)
    | (with_reducible refine ev_alloc (o := ⟨some 3, _, _, _, _, _⟩) rfl TBits rfl _ infoBits ?_; rintro _ w3 rfl hB3 hb3))
  have HR : Hid (Blk w3 w.heap.size (bitCells fun _ => false).toArray TBits) := hB2.below hb3
  have HB : Hid (Below w.heap.size w w3) := below_then hb2 hb3
  have HO : Hid (Blk w3 w2.heap.size (bitCells fun _ => false).toArray TBits) := hB3
  have hlt := hB2.lt
  clear hB2 hB3 hb2 hb3
  go_loopg [5] 256 (fun n i wr => ∃ k : Nat, Hid (k + n = 256) ∧ i = .int .i64 k ∧ ∃ f : Nat → Bool, Hid (Blk wr w2.heap.size (bitCells f).toArray TBits) ∧ Hid (∀ j, j < k → f j = setHas xs j) ∧ Hid (Blk wr w.heap.size (bitCells fun _ => false).toArray TBits) ∧ Hid (Below w.heap.size w wr))
  case atStart => exact ⟨0, rfl, rfl, _, HO, fun j hj => absurd hj (Nat.not_lt_zero _), HR, HB⟩
  case round =>
    clear HO HR HB
    obtain ⟨k, hk, rfl, f, HO, HF, HR, HB⟩ := hrel
    by_cases hk2 : k < 256
    · go_wp2_with fail
      refine (iSetHas_c _ _ _ _ _ (h.below HB.out)).mono ?_
      rintro e w4 ⟨rfl, hb⟩
      have HO2 : Hid _ := HO.out.below hb
      have HR2 : Hid _ := HR.out.below hb
      have HB2 : Hid _ := below_then HB.out hb
      have c0 := bit_cell HO2.out k hk2
      have f0 := HO2.out.free k
      clear HO HR HB hb
      go_wp2
      go_roundg (gk - 1)
      case rel =>
        refine ⟨k + 1, by have := hk.out; show _ = _; omega, by go_num, _, bit_set HO2.out k _, ?_, HR2.out.far (by simp; omega) _, below_set HB2.out (by simp; omega) _⟩
        intro j hj
        by_cases e : j = k
        · rw [if_pos e, e]
        · rw [if_neg e]
          exact HF.out j (by omega)
      case measure => have := hk.out; omega
    · have hF : bitCells f = bitCells fun i => setHas xs i := bitCells_congr fun i hi => HF.out i (by omega)
      go_wp2_with (first
        | (with_reducible refine ev_load (o := ⟨some 14, _, _, _, _, _⟩) rfl TBits _ rfl w2.heap.size rfl (bitCells f) TBits HO.out _ uBits rfl (sizeBits' f) ?_)
        | (with_reducible refine ev_store (o := ⟨none, _, _, _, _, _⟩) rfl rfl TBits (.tmp 2) (.tmp 14) rfl w.heap.size 0 rfl (bitCells f) rfl (bitCells fun _ => false).toArray TBits HR.out (sizeBits' f) (by simp [bitCells_length]) (bitCells_one f) ?_; intro w5 hs hg))
      have hs' : Blk w5 w.heap.size (bitCells fun i => setHas xs i).toArray TBits := by
        rw [← hF]
        rw [List.take_zero, List.nil_append, List.drop_of_length_le (by rw [bitCells_length, bitCells_length]; omega), List.append_nil] at hs
        exact hs
      exact bodyPost_ret (results_cell_row rfl _ _ w.heap.size TBits _ (0, 0) _ rfl hs'.eq uBits rfl (by rw [sizeBits]; simp [bitCells_length])) rfl ⟨rfl, HB.out.grown hg HB.out.size (fun k hk => by injection hk with hk; omega)⟩

end Go.Proofs.Ytplhbjpkkhhilaa

/- spans: the set of bits. -/
namespace Go.Proofs.Ytplhbjpkkhhilaa
set_option linter.unusedSimpArgs false
set_option linter.unusedVariables false
open Go.RowKit

set_option maxRecDepth 100000 in
set_option maxHeartbeats 2000000 in
theorem spans_c (f : Nat → Bool) (w : World) :
    Calls Try.prog 46 #[.agg (bitCells f).toArray] w fun e w' => ∃ v, e = .returned v ∧ OwnSp w' w.heap.size v (spansOf f) ∧ Below w.heap.size w w' := by
  obtain ⟨i0, hi, hz0, hz1, hz2⟩ := info_parts infoSp
  go_enter Try.func46, Try.ntmps46
  go_wp2_with (first
    | (with_reducible refine ev_box (o := ⟨some 1, _, _, _, _, _⟩) rfl TBits (.tmp 0) rfl _ rfl ?_; rintro _ w1 rfl hX hb1)
    | (with_reducible refine ev_load (o := ⟨some 6, _, _, _, _, _⟩) rfl TBits _ rfl w.heap.size rfl (bitCells f) TBits hX _ uBits rfl (sizeBits' f) ?_))
  have HX : Hid (Blk w1 w.heap.size (bitCells f).toArray TBits) := hX
  have HB : Hid (Below w.heap.size w w1) := hb1
  have hlt := hX.lt
  clear hX hb1
  go_loopg [3, 7] 256 (fun n v i wr => ∃ k : Nat, Hid (k + n = 256) ∧ i = .int .i64 k ∧ Hid (OwnSp wr (w.heap.size + 1) v (spansTo f k)) ∧ Hid (Blk wr w.heap.size (bitCells f).toArray TBits) ∧ Hid (Below w.heap.size w wr))
  case atStart => exact ⟨0, rfl, rfl, OwnSp.nil _ _, HX, HB⟩
  case round =>
    clear HX HB
    obtain ⟨k, hk, rfl, HO, HX, HB⟩ := hrel
    by_cases hk2 : k < 256
    · have hix := fun wx => run_index_bits f k hk2 wx
      have hlen := spansTo_length f k
      by_cases hf : f k = true
      · rw [hf] at hix
        by_cases hp : 0 < k ∧ f (k - 1) = true
        · obtain ⟨x, hx1, hx2, _, hx4⟩ := spansTo_ext hf hp.1 hp.2 (by omega)
          obtain ⟨g, cap, rfl, hg, _⟩ := own_form HO.out.own hx2
          obtain ⟨x', HX', c0, c1, f0, f1⟩ := HO.out.cells ((spansTo f k).length - 1) (by omega)
          obtain rfl : x = x' := by
            have := HX'.out
            rw [hx1] at this
            exact Option.some.inj this
          have c2 := bit_cell HX.out (k - 1) (by omega)
          rw [hp.2] at c2
          have d4 : decide (0 < k) = true := decide_eq_true hp.1
          have E : Hid (spansTo f (k + 1) = (spansTo f k).set ((spansTo f k).length - 1) ⟨x.lo, k⟩) := hx4
          have k1 : 1 ≤ k := hp.1
          have HX1 : Hid (_ = _) := hx1
          clear hf hp hx1 hx4 HX'
          go_wp2
          go_roundg (gk - 1)
          case rel => exact ⟨k + 1, by have := hk.out; show _ = _; omega, by go_num, by rw [E.out]; exact HO.out.setHi _ x HX1.out _, HX.out.far (by simp; omega) _, below_set HB.out (by simp; omega) _⟩
          case measure => have := hk.out; omega
        · have hp' : k = 0 ∨ f (k - 1) = false := by
            rcases Nat.eq_zero_or_pos k with h0 | h0
            · exact .inl h0
            · exact .inr (by simpa using fun h => hp ⟨h0, h⟩)
          have E : Hid (spansTo f (k + 1) = spansTo f k ++ [⟨k, k⟩]) := spansTo_new hf hp'
          have A1 : ∀ wx : World, OwnSp wx (w.heap.size + 1) u3 (spansTo f k) → wx.ownsRow (w.heap.size + 1) TSp 2 u3 (spansTo f k).length (spcs (spansTo f k)) := fun wx h => h.own
          have hsz : w.heap.size + 1 ≤ wr.heap.size := by have := HX.out.lt; omega
          clear hp hf
          rcases hp' with h0 | h0
          · have d4 : decide (0 < k) = false := decide_eq_false (by omega)
            have HH : Hid (k = 0) := h0
            clear h0
            go_wp2_with (at_builtin; refine wpList_append_own _ rfl (.tmp 11) (.tmp 15) 27 rfl (w.heap.size + 1) TSp i0 (.agg #[.int .i64 0, .int .i64 0]) 2 16 Try.underlying27 hi hz0 hz1 hz2 rfl (by decide) u3 _ _ rfl (HO.out.own.alloc _) ⟨wr.heap.size, 0, none⟩ 1 1 [.int .i64 k, .int .i64 k] rfl rfl (new_cells wr [.int .i64 k, .int .i64 k] TSp) (two_one _ _) (by unfold maxLen; omega) (by omega) (by simp; omega) ?_; intro v' w2 hown' hgrow _)
            have hbs := own_base HO.out.own
            go_roundg (gk - 1)
            case rel => exact ⟨k + 1, by have := hk.out; show _ = _; omega, by go_num, by rw [E.out]; exact OwnSp.snoc hown', (HX.out.alloc _).grown hgrow (fun q hq => by have := (hbs q hq).1; omega), (below_alloc HB.out _).grown hgrow (by simp; omega) (fun q hq => by have := (hbs q hq).1; omega)⟩
            case measure => have := hk.out; omega
          · by_cases hk0 : k = 0
            · have d4 : decide (0 < k) = false := decide_eq_false (by omega)
              have HH : Hid (k = 0) := hk0
              clear h0 hk0
              go_wp2_with (at_builtin; refine wpList_append_own _ rfl (.tmp 11) (.tmp 15) 27 rfl (w.heap.size + 1) TSp i0 (.agg #[.int .i64 0, .int .i64 0]) 2 16 Try.underlying27 hi hz0 hz1 hz2 rfl (by decide) u3 _ _ rfl (HO.out.own.alloc _) ⟨wr.heap.size, 0, none⟩ 1 1 [.int .i64 k, .int .i64 k] rfl rfl (new_cells wr [.int .i64 k, .int .i64 k] TSp) (two_one _ _) (by unfold maxLen; omega) (by omega) (by simp; omega) ?_; intro v' w2 hown' hgrow _)
              have hbs := own_base HO.out.own
              go_roundg (gk - 1)
              case rel => exact ⟨k + 1, by have := hk.out; show _ = _; omega, by go_num, by rw [E.out]; exact OwnSp.snoc hown', (HX.out.alloc _).grown hgrow (fun q hq => by have := (hbs q hq).1; omega), (below_alloc HB.out _).grown hgrow (by simp; omega) (fun q hq => by have := (hbs q hq).1; omega)⟩
              case measure => have := hk.out; omega
            · have d4 : decide (0 < k) = true := decide_eq_true (by omega)
              have c2 := bit_cell HX.out (k - 1) (by omega)
              rw [h0] at c2
              have k1 : 1 ≤ k := by omega
              clear h0 hk0
              go_wp2_with (at_builtin; refine wpList_append_own _ rfl (.tmp 11) (.tmp 15) 27 rfl (w.heap.size + 1) TSp i0 (.agg #[.int .i64 0, .int .i64 0]) 2 16 Try.underlying27 hi hz0 hz1 hz2 rfl (by decide) u3 _ _ rfl (HO.out.own.alloc _) ⟨wr.heap.size, 0, none⟩ 1 1 [.int .i64 k, .int .i64 k] rfl rfl (new_cells wr [.int .i64 k, .int .i64 k] TSp) (two_one _ _) (by unfold maxLen; omega) (by omega) (by simp; omega) ?_; intro v' w2 hown' hgrow _)
              have hbs := own_base HO.out.own
              go_roundg (gk - 1)
              case rel => exact ⟨k + 1, by have := hk.out; show _ = _; omega, by go_num, by rw [E.out]; exact OwnSp.snoc hown', (HX.out.alloc _).grown hgrow (fun q hq => by have := (hbs q hq).1; omega), (below_alloc HB.out _).grown hgrow (by simp; omega) (fun q hq => by have := (hbs q hq).1; omega)⟩
              case measure => have := hk.out; omega
      · have hf' : f k = false := by simpa using hf
        rw [hf'] at hix
        have E : Hid (spansTo f (k + 1) = spansTo f k) := spansTo_no hf'
        clear hf hf'
        go_wp2
        go_roundg (gk - 1)
        case rel => exact ⟨k + 1, by have := hk.out; show _ = _; omega, by go_num, by rw [E.out]; exact HO, HX, HB⟩
        case measure => have := hk.out; omega
    · have HK : Hid (k = 256) := by have := hk.out; show _ = _; omega
      obtain ⟨A, c, rfl, hs⟩ := HO.out.sps
      have hlen := spansTo_length f k
      have hl2 : (spansTo f k).length ≤ 256 := by have := HK.out; omega
      go_wp2_with (go_at_call 73; refine (copiedSpan_c A c _ (spcs (spansTo f k)) _ hs.row (spcs_length _) (spcs_one _) (by omega)).mono ?_; rintro e w4 ⟨v4, rfl, o4, b4⟩)
      go_ret
      have := HK.out
      subst this
      exact ⟨_, rfl, ⟨own_lower o4 HB.out.size, by show (spansTo f 256).length ≤ _; unfold maxN; omega⟩, below_then HB.out b4⟩

end Go.Proofs.Ytplhbjpkkhhilaa

/- spec.l1Of: the spans of 256 marks. -/
namespace Go.Proofs.Ytplhbjpkkhhilaa
set_option linter.unusedSimpArgs false
set_option linter.unusedVariables false
open Go.RowKit

theorem bitr_cell {w : World} {g t : Nat} {f : Nat → Bool} (h : Blk w g (bitCells f).toArray t) (k : Nat) (hk : k < 256) : w.cell? ⟨g, k, none⟩ = some (.bool (f k)) := by
  rw [h.cell]
  simpa using bitCells_get f k hk
theorem bitr_set {w : World} {g t : Nat} {f : Nat → Bool} (h : Blk w g (bitCells f).toArray t) (k : Nat) (b : Bool) : Blk (w.setCell ⟨g, k, none⟩ (.bool b)) g (bitCells fun i => if i = k then b else f i).toArray t := by
  have := h.set k (.bool b)
  rw [show (bitCells f).toArray.setIfInBounds k (.bool b) = ((bitCells f).set k (.bool b)).toArray by simp, bitCells_set] at this
  exact this
theorem spansTo_hi {f : Nat → Bool} {n : Nat} (hn : n ≤ 256) {x : Sp} (hl : 0 < (spansTo f n).length) (hx : (spansTo f n)[(spansTo f n).length - 1]? = some x) :
    0 ≤ x.hi ∧ x.hi ≤ 255 ∧ (x.hi = (n : Int) - 1 → 0 < n ∧ f (n - 1) = true) := by
  have h := upto_spans f n hn
  have hlast : (spansTo f n).getLast? = some x := by rw [List.getLast?_eq_getElem?]; exact hx
  have b := setOk_last h.ok hlast
  refine ⟨by omega, b.2.2, fun e => ?_⟩
  obtain ⟨ys, hys⟩ := List.getLast?_eq_some_iff.1 hlast
  have hin : setHas (spansTo f n) x.hi = true := by
    rw [hys, setHas_append]
    simp [setHas_cons, spIn]
    right; omega
  obtain ⟨k, hk, hf, hke⟩ := (h.has _).1 hin
  obtain rfl : k = n - 1 := by omega
  exact ⟨by omega, hf⟩
theorem own_empty (w : World) : OwnSp (w.alloc (.cells #[] TSp)) w.heap.size (.slice (some ⟨w.heap.size, 0, none⟩) 0 0) [] :=
  ⟨own_of_blk (cs := []) (n := 0) (blk_new w #[] TSp) (by simp) (Nat.le_refl _) (by decide), by simp⟩

set_option maxRecDepth 100000 in
set_option maxHeartbeats 2000000 in
theorem sl1Of_c (f : Nat → Bool) (g : Nat) (w : World) (h : Blk w g (bitCells f).toArray 4) :
    Calls Try.prog 72 #[.slice (some ⟨g, 0, none⟩) 256 256] w fun e w' => ∃ v, e = .returned v ∧ OwnSp w' w.heap.size v (spansOf f) ∧ Below w.heap.size w w' := by
  obtain ⟨i0, hi, hz0, hz1, hz2⟩ := info_parts infoSp
  have HO := Lib.hid (own_empty w)
  have HB := Lib.hid (below_alloc (Below.refl w.heap.size w) (.cells #[] TSp))
  have HX := Lib.hid h
  clear h
  go_enter Try.func72, Try.ntmps72
  go_wp2
  go_loopg [3, 4] 256 (fun n v i wr => ∃ k : Nat, Hid (k + n = 256) ∧ i = .int .i64 k ∧ Hid (OwnSp wr w.heap.size v (spansTo f k)) ∧ Hid (Below w.heap.size w wr))
  case atStart => exact ⟨0, rfl, rfl, HO, HB⟩
  case round =>
    clear HO HB
    obtain ⟨k, hk, rfl, HO, HB⟩ := hrel
    by_cases hk2 : k < 256
    · have c2 := bitr_cell (HX.out.below HB.out) k hk2
      have hlen := spansTo_length f k
      by_cases hf : f k = true
      · rw [hf] at c2
        have e0 : IntKind.i64.wrap ((k : Int) - 1) = (k : Int) - 1 := IntWalk.i64_in _ (by omega)
        by_cases hl : 0 < (spansTo f k).length
        · obtain ⟨g', cap, rfl, hg, _⟩ := own_form HO.out.own hl
          obtain ⟨x, HX1, c0, c1, f0, f1⟩ := HO.out.cells ((spansTo f k).length - 1) (by omega)
          have hh := spansTo_hi (f := f) (n := k) (by omega) hl HX1.out
          have d4 : decide (0 < (spansTo f k).length) = true := decide_eq_true hl
          have e1 : IntKind.i64.wrap (((spansTo f k).length : Int) - 1) = ((spansTo f k).length : Int) - 1 := IntWalk.i64_in _ (by omega)
          have e2 : (0 : Int) ≤ ((spansTo f k).length : Int) - 1 := by omega
          have e3 : ((spansTo f k).length : Int) - 1 < ((spansTo f k).length : Int) := by omega
          have e4 : (((spansTo f k).length : Int) - 1).toNat = (spansTo f k).length - 1 := by omega
          have e5 : (1 : Int) ≤ ((spansTo f k).length : Int) := by omega
          by_cases hx : x.hi = (k : Int) - 1
          · have hp := hh.2.2 hx
            obtain ⟨y, hy1, _, _, hy4⟩ := spansTo_ext hf hp.1 hp.2 (by omega)
            obtain rfl : x = y := by
              have := HX1.out
              rw [hy1] at this
              exact (Option.some.inj this).symm
            have E : Hid (spansTo f (k + 1) = (spansTo f k).set ((spansTo f k).length - 1) ⟨x.lo, k⟩) := hy4
            have d5 : (x.hi == (k : Int) - 1) = true := by rw [hx]; simp
            clear hf hp hy1 hy4 hh hx hl
            go_wp2
            go_roundg (gk - 1)
            case rel => exact ⟨k + 1, by have := hk.out; show _ = _; omega, by go_num, by rw [E.out]; exact HO.out.setHi _ x HX1.out _, below_set HB.out (by simp; omega) _⟩
            case measure => have := hk.out; omega
          · have hp' : k = 0 ∨ f (k - 1) = false := by
              rcases Nat.eq_zero_or_pos k with h0 | h0
              · exact .inl h0
              · refine .inr ?_
                rw [Bool.eq_false_iff]
                intro hc
                obtain ⟨y, hy1, _, hy3, _⟩ := spansTo_ext hf h0 hc (by omega)
                have := HX1.out
                rw [hy1] at this
                obtain rfl := Option.some.inj this
                exact hx hy3
            have E : Hid (spansTo f (k + 1) = spansTo f k ++ [⟨k, k⟩]) := spansTo_new hf hp'
            have d5 : (x.hi == (k : Int) - 1) = false := by simp [hx]
            have hsz := HB.out.size
            clear hf hp' hh hx hl
            go_wp2_with (at_builtin; refine wpList_append_own _ rfl (.tmp 37) (.tmp 41) 27 rfl w.heap.size TSp i0 (.agg #[.int .i64 0, .int .i64 0]) 2 16 Try.underlying27 hi hz0 hz1 hz2 rfl (by decide) _ _ _ rfl (HO.out.own.alloc _) ⟨wr.heap.size, 0, none⟩ 1 1 [.int .i64 k, .int .i64 k] rfl rfl (new_cells wr [.int .i64 k, .int .i64 k] TSp) (two_one _ _) (by unfold maxLen; omega) (by omega) (by simp; omega) ?_; intro v' w2 hown' hgrow _)
            have hbs := own_base HO.out.own
            go_roundg (gk - 1)
            case rel => exact ⟨k + 1, by have := hk.out; show _ = _; omega, by go_num, by rw [E.out]; exact OwnSp.snoc hown', (below_alloc HB.out _).grown hgrow (by simp; omega) (fun q hq => by have := (hbs q hq).1; omega)⟩
            case measure => have := hk.out; omega
        · have hsz := HB.out.size
          have h0 : (spansTo f k).length = 0 := by omega
          have hp' : k = 0 ∨ f (k - 1) = false := by
            rcases Nat.eq_zero_or_pos k with h0' | h0'
            · exact .inl h0'
            · refine .inr ?_
              rw [Bool.eq_false_iff]
              intro hc
              obtain ⟨y, _, hy2, _, _⟩ := spansTo_ext hf h0' hc (by omega)
              omega
          have E : Hid (spansTo f (k + 1) = spansTo f k ++ [⟨k, k⟩]) := spansTo_new hf hp'
          obtain ⟨A, c, rfl, _⟩ := HO.out.sps
          have d4 : decide (0 < (spansTo f k).length) = false := decide_eq_false hl
          have HH := Lib.hid h0
          clear hf hp' hl h0
          go_wp2_with (at_builtin; refine wpList_append_own _ rfl (.tmp 37) (.tmp 41) 27 rfl w.heap.size TSp i0 (.agg #[.int .i64 0, .int .i64 0]) 2 16 Try.underlying27 hi hz0 hz1 hz2 rfl (by decide) _ _ _ rfl (HO.out.own.alloc _) ⟨wr.heap.size, 0, none⟩ 1 1 [.int .i64 k, .int .i64 k] rfl rfl (new_cells wr [.int .i64 k, .int .i64 k] TSp) (two_one _ _) (by unfold maxLen; omega) (by omega) (by simp; omega) ?_; intro v' w2 hown' hgrow _)
          have hbs := own_base HO.out.own
          go_roundg (gk - 1)
          case rel => exact ⟨k + 1, by have := hk.out; show _ = _; omega, by go_num, by rw [E.out]; exact OwnSp.snoc hown', (below_alloc HB.out _).grown hgrow (by simp; omega) (fun q hq => by have := (hbs q hq).1; omega)⟩
          case measure => have := hk.out; omega
      · have hf' : f k = false := by simpa using hf
        rw [hf'] at c2
        have E : Hid (spansTo f (k + 1) = spansTo f k) := spansTo_no hf'
        clear hf hf'
        go_wp2
        go_roundg (gk - 1)
        case rel => exact ⟨k + 1, by have := hk.out; show _ = _; omega, by go_num, by rw [E.out]; exact HO, HB⟩
        case measure => have := hk.out; omega
    · have HK : Hid (k = 256) := by have := hk.out; show _ = _; omega
      go_wp2
      go_ret
      have := HK.out
      subst this
      exact ⟨_, rfl, HO.out, HB.out⟩

end Go.Proofs.Ytplhbjpkkhhilaa
