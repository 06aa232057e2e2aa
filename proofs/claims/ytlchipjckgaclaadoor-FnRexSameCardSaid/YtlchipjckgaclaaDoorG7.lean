/- Texts joined for the claims: C2 N3 Dt1 Dt2. -/
import Derived.Test.YtlchipjckgaclaaDoorG6
import Derived.Deep.DeepCutAuto
import Derived.Test.YtlchipjckgaclaaDoorG3
/- l2Copy: a tree in new memory, by the reference. -/
namespace Go.Proofs.YtlchipjckgaclaaDoor
set_option linter.unusedSimpArgs false
set_option linter.unusedVariables false
set_option maxRecDepth 100000
open Go.RowKit

abbrev E0 : Obj := .cells #[] TSp (0, 0)
theorem own_e (w : World) {lo : Nat} (h : lo ≤ w.heap.size) : (w.alloc E0).ownsRow lo TSp 2 (.slice (some ⟨w.heap.size, 0, none⟩) 0 0) 0 [] :=
  ⟨rfl, .inr ⟨w.heap.size, 0, #[], rfl, h, heap_alloc_new w _, Nat.le_refl _, by unfold maxLen; omega, rfl, rfl⟩⟩
theorem vblk_of_some' {g n c : Nat} : vblk (.slice (some ⟨g, 0, none⟩) n c) = [g] := rfl
theorem hv2 {vS : Value} {n H g : Nat} (hat : ∀ b, b ∈ vblk vS → b ∈ vblk (.slice (some ⟨n, 0, none⟩) 0 0) ∨ b = H) (h1 : g ≠ n) (h2 : g ≠ H) : g ∉ vblk vS := fun h => by
  rcases hat g h with e | e
  · rw [vblk_of_some'] at e; simp at e; exact h1 e
  · exact h2 e
/-- what the first statement leaves -/
structure LitMid (wb wx : World) (g : Nat) (k : Int) (s : List Sp) (vS : Value) : Prop where
  blk : Blk wx g #[.int .i64 k, vS, nilS] TRx
  set : OwnSp wx wb.heap.size vS s
  bel : Below wb.heap.size wb wx
  gS : g ∉ vblk vS
  gl : wb.heap.size ≤ g
def LitMidP (wb : World) (k : Int) (s : List Sp) (v : Value) (wx : World) : Prop := ∃ g vS, v = .pointer (some ⟨g, 0, none⟩) ∧ LitMid wb wx g k s vS

theorem lit1 {wa wB : World} {k : Int} {s : List Sp} {vS : Value} (hl : s.length ≤ maxN) (OS : wB.ownsRow wa.heap.size TSp 2 vS s.length (spcs s)) (BS : Below wa.heap.size wa wB) :
    LitMidP wa k s (.pointer (some ⟨wB.heap.size, 0, none⟩)) (wB.alloc (.cells #[.int .i64 k, vS, nilS] TRx (0, 0))) := by
  have e1 := own_vlt OS
  refine ⟨_, vS, rfl, blk_new _ _ _, ⟨own_below OS (below_alloc (Below.refl _ _) _), hl⟩, below_alloc BS _, fun h => ?_, BS.size⟩
  have := e1 _ h; omega
theorem lit2 {wa wB : World} {k : Int} {s : List Sp} {vS : Value} {g : Nat} (hl : s.length ≤ maxN) (OS : wB.ownsRow wa.heap.size TSp 2 vS s.length (spcs s)) (BS : Below wa.heap.size wa wB) (hZ : Blk wB g #[.int .i64 0, nilS, nilS] TRx) (hg : wa.heap.size ≤ g) (hv : g ∉ vblk vS) :
    LitMidP wa k s (.pointer (some ⟨g, 0, none⟩)) (((wB.setCell ⟨g, 0, none⟩ (.int .i64 k)).setCell ⟨g, 1, none⟩ vS).setCell ⟨g, 2, none⟩ nilS) := by
  have far : ∀ b, b ≠ g → (((wB.setCell ⟨g, 0, none⟩ (.int .i64 k)).setCell ⟨g, 1, none⟩ vS).setCell ⟨g, 2, none⟩ nilS).heap[b]? = wB.heap[b]? := fun b hb =>
    (Below.heap_setCell _ _ _ _ hb).trans ((Below.heap_setCell _ _ _ _ hb).trans (Below.heap_setCell _ _ _ _ hb))
  exact ⟨g, vS, rfl, by simpa using ((hZ.set 0 (.int .i64 k)).set 1 vS).set 2 nilS, ⟨own_move OS fun b h => far b (fun e => hv (e ▸ mem_vblk.2 h)), hl⟩, below_set (below_set (below_set BS hg _) hg _) hg _, hv, hg⟩

/-- a row of trees that grows -/
structure KApp (w : World) (lo : Nat) (ks : List Rex) (j : Nat) (v : Value) (L : List KInfo) : Prop where
  own : w.ownsRow lo TRx 3 v j (kcells (ks.take j) L)
  len : L.length = j
  le : j ≤ ks.length
  hr : ∀ (i : Nat) (r : Rex) (x : KInfo), ks[i]? = some r → L[i]? = some x → OwnT w x.fp r x.v1 x.v2
  nd : (vblk v ++ fps L).Nodup
  lo : ∀ b, b ∈ vblk v ++ fps L → lo ≤ b
theorem KApp.first (w : World) (lo : Nat) (ks : List Rex) : KApp w lo ks 0 nilS [] :=
  ⟨by simpa [kcells] using World.ownsRow_nil w lo TRx 3, rfl, Nat.zero_le _, fun i r x _ h => by simp at h, by simp [fps, vblk_nil], fun b hb => by simp [fps, vblk_nil] at hb⟩
theorem vblk_nodup (v : Value) : (vblk v).Nodup := by unfold vblk; split <;> simp
theorem KApp.lt {w : World} {lo : Nat} {ks : List Rex} {j : Nat} {v : Value} {L : List KInfo} (h : KApp w lo ks j v L) : ∀ b, b ∈ vblk v ++ fps L → b < w.heap.size := by
  intro b hb
  rcases List.mem_append.1 hb with hb | hb
  · exact (own_vlt h.own b hb).2
  · obtain ⟨i, x, hx, hb⟩ := mem_fps.1 hb
    have hi := (List.getElem?_eq_some_iff.1 hx).1
    have hl := h.len
    have hle := h.le
    exact (h.hr i (ks[i]'(by omega)) x (List.getElem?_eq_getElem _) hx).lt b hb
theorem KApp.snoc {wr wD wE : World} {lo : Nat} {ks : List Rex} {j : Nat} {v v' : Value} {L : List KInfo} {r : Rex} {fp : List Nat} {v1 v2 : Value} {O : Obj} {g o : Nat} {u : Value} (h : KApp wr lo ks j v L) (hr : ks[j]? = some r) (b2 : Below wr.heap.size wr wD)
    (ho : OwnT wD fp r v1 v2) (hf : ∀ b, b ∈ fp → wr.heap.size ≤ b) (hn : fp.Nodup) (he : wE.ownsRow lo TRx 3 v' (j + 1) (kcells (ks.take j) L ++ [.int .i64 r.kind, v1, v2])) (hg : (wD.alloc O).grownBy wE v.ownBlock)
    (hat : ∀ b, b ∈ vblk v' → b ∈ vblk v ∨ b = (wD.alloc O).heap.size) (hgl : g < lo) (hlo : lo ≤ wr.heap.size) : KApp (wE.setCell ⟨g, o, none⟩ u) lo ks (j + 1) v' (L ++ [⟨fp, v1, v2⟩]) := by
  have hj := (List.getElem?_eq_some_iff.1 hr).1
  have hlen := h.len
  have hlt := h.lt
  obtain ⟨n1, n2, n3⟩ := List.nodup_append.1 h.nd
  have hz : (wD.alloc O).heap.size = wD.heap.size + 1 := by simp
  rw [hz] at hat
  have hzD := b2.size
  have stay : ∀ b, b < wD.heap.size → b ∉ vblk v → b ≠ g → (wE.setCell ⟨g, o, none⟩ u).heap[b]? = wD.heap[b]? := fun b hb hv hbg =>
    (Below.heap_setCell _ _ _ _ hbg).trans ((hg.block b (by rw [hz]; omega) fun e => hv (mem_vblk.2 e.symm)).trans ((below_alloc (Below.refl wD.heap.size wD) O).block b hb))
  refine ⟨?_, by simp [hlen], hj, ?_, ?_, ?_⟩
  · have e : kcells (ks.take (j + 1)) (L ++ [⟨fp, v1, v2⟩]) = kcells (ks.take j) L ++ [.int .i64 r.kind, v1, v2] := by
      rw [List.take_add_one, hr]
      exact kcells_append _ _ _ ⟨fp, v1, v2⟩ (by rw [List.length_take]; omega)
    rw [e]
    exact own_move he fun b hb => Below.heap_setCell _ _ _ _ (fun e => by have := (own_vlt he b (mem_vblk.2 hb)).1; have e' : b = g := e; omega)
  · intro i r' x hi hx
    by_cases e : i < L.length
    · rw [List.getElem?_append_left e] at hx
      have hT := h.hr i r' x hi hx
      refine (hT.under b2).stay fun b hb => stay b (Nat.lt_of_lt_of_le (hT.lt b hb) hzD) (fun hv => n3 b hv b (mem_fps.2 ⟨i, x, hx, hb⟩) rfl) fun eg => ?_
      have := h.lo b (by simp [mem_fps.2 ⟨i, x, hx, hb⟩])
      omega
    · have e2 : i = L.length := by
        have := (List.getElem?_eq_some_iff.1 hx).1
        simp at this
        omega
      subst e2
      rw [hlen, hr] at hi
      obtain rfl := Option.some.inj hi
      simp at hx
      subst hx
      refine ho.stay fun b hb => stay b (ho.lt b hb) (fun hv => ?_) fun eg => ?_
      · have := (own_vlt h.own b hv).2; have := hf b hb; omega
      · have := hf b hb; omega
  · have e : fps (L ++ [⟨fp, v1, v2⟩]) = fps L ++ fp := by rw [fps_append]; simp [fps]
    rw [e]
    refine List.nodup_append.2 ⟨vblk_nodup _, List.nodup_append.2 ⟨n2, hn, fun a ha b hb eq => ?_⟩, fun a ha b hb eq => ?_⟩
    · have := hlt a (by simp [ha]); have := hf b hb; omega
    · subst eq
      rcases hat a ha with hv | hv
      · rcases List.mem_append.1 hb with hb | hb
        · exact n3 a hv a hb rfl
        · have := (own_vlt h.own a hv).2; have := hf a hb; omega
      · rcases List.mem_append.1 hb with hb | hb
        · have := hlt a (by simp [hb]); omega
        · have := ho.lt a hb; omega
  · have e : fps (L ++ [⟨fp, v1, v2⟩]) = fps L ++ fp := by rw [fps_append]; simp [fps]
    rw [e]
    intro b hb
    rcases List.mem_append.1 hb with hb | hb
    · exact (own_vlt he b hb).1
    · rcases List.mem_append.1 hb with hb | hb
      · exact h.lo b (by simp [hb])
      · exact Nat.le_trans hlo (hf b hb)
theorem KApp.done {w : World} {lo : Nat} {ks : List Rex} {j : Nat} {v : Value} {L : List KInfo} (h : KApp w lo ks j v L) (hj : j = ks.length) (hn : ks.length ≤ maxN) : OwnK w (vblk v ++ fps L) ks v L := by
  subst hj
  have e := h.own
  rw [List.take_length] at e
  exact ⟨h.len.symm, own_lower e (Nat.zero_le _), hn, h.hr, rfl, h.nd⟩
def SCopyOk (r : Rex) : Prop := ∀ (v1 v2 : Value) (w : World) (lo : Nat), RexV w lo r (.int .i64 r.kind) v1 v2 → r.size ≤ 1073741824 →
  Calls Tryd.prog 85 #[.agg #[.int .i64 r.kind, v1, v2]] w (CopyPost r.kind r.set r.kids w)

def SCopyOk' (r : Rex) : Prop := ∀ (v1 v2 : Value) (w : World) (lo : Nat), RexV w lo r (.int .i64 r.kind) v1 v2 → r.size ≤ 1073741824 →
  Calls Tryd.prog 85 #[.agg #[.int .i64 r.kind, v1, v2]] w fun e w' => ∃ v, e = .returned v ∧ ∃ u1 u2 fp, v = .agg #[.int .i64 r.kind, u1, u2] ∧ OwnT w' fp (.mk r.kind r.set r.kids) u1 u2 ∧ fp.Nodup ∧ (∀ b, b ∈ fp → w.heap.size ≤ b) ∧ Below w.heap.size w w'
set_option maxRecDepth 100000 in
set_option maxHeartbeats 4000000 in
theorem sCopy_c (r : Rex) : SCopyOk r := by
  refine Rex.ind (p := SCopyOk) (fun k s ks ih => ?_) r
  have ih' : ∀ r, r ∈ ks → SCopyOk' r := fun r hr v1 v2 w lo h hsz => (ih r hr v1 v2 w lo h hsz).mono fun e w' ⟨u1, u2, fp, he, rest⟩ => ⟨_, he, u1, u2, fp, rfl, rest⟩
  intro v1 v2 w lo h hsz
  obtain ⟨A, c, K, ck, _, rfl, rfl, hs, hk⟩ := h.parts
  dsimp only [Rex.kind, Rex.set, Rex.kids] at hs hk ⊢
  rw [Rex.size] at hsz
  clear h
  obtain ⟨wa, hwa⟩ : ∃ x, x = (w.alloc (.cells #[.int .i64 k, .slice A s.length c, .slice K ks.length ck] TRx)).alloc (.cells #[.int .i64 0, nilS, nilS] TRx) := ⟨_, rfl⟩
  have hb : Below w.heap.size w wa := by rw [hwa]; exact below_alloc (below_alloc (Below.refl _ _) _) _
  have m0 : Blk wa w.heap.size #[.int .i64 k, .slice A s.length c, .slice K ks.length ck] TRx := by rw [hwa]; exact (blk_new w _ _).alloc _
  have m1 : Blk wa (w.heap.size + 1) #[.int .i64 0, nilS, nilS] TRx := by
    rw [hwa]
    have := blk_new (w.alloc (.cells #[.int .i64 k, .slice A s.length c, .slice K ks.length ck] TRx)) #[.int .i64 0, nilS, nilS] TRx
    simpa using this
  have hz1 : w.heap.size + 1 < wa.heap.size := m1.lt
  replace hwa := hwa.symm
  have HB := Lib.hid hb
  have M0 := Lib.hid m0
  have M1 := Lib.hid m1
  have HS := Lib.hid (hs.below hb)
  have HK := Lib.hid (hk.below hb)
  clear hb m0 m1 hs hk
  have HM : Hid (∀ w', Below wa.heap.size wa w' → w'.cell? ⟨w.heap.size, 0, none⟩ = some (.int .i64 k) ∧ w'.cell? ⟨w.heap.size, 1, none⟩ = some (.slice A s.length c)) := fun w' hb =>
    ⟨by rw [(M0.out.below hb).cell]; rfl, by rw [(M0.out.below hb).cell]; rfl⟩
  obtain ⟨i0, hi, hz0, hza, hz2⟩ := info_parts infoSp
  have BW1 : Hid (Below wa.heap.size wa (wa.alloc E0).drew) := below_drew (below_alloc (Below.refl _ _) _)
  have BW2 : Hid (Below wa.heap.size wa ((wa.alloc E0).alloc Z0).drew) := below_drew (below_alloc (below_alloc (Below.refl _ _) _) _)
  have BW3 : Hid (Below wa.heap.size wa ((wa.alloc Z0).alloc E0).drew) := below_drew (below_alloc (below_alloc (Below.refl _ _) _) _)
  have OW1 : Hid ((wa.alloc E0).drew.ownsRow wa.heap.size TSp 2 (.slice (some ⟨wa.heap.size, 0, none⟩) 0 0) 0 []) := own_below (own_e wa (Nat.le_refl _)) (below_drew (Below.refl _ _))
  have OW2 : Hid (((wa.alloc E0).alloc Z0).drew.ownsRow wa.heap.size TSp 2 (.slice (some ⟨wa.heap.size, 0, none⟩) 0 0) 0 []) := own_below (own_e wa (Nat.le_refl _)) (below_drew (below_alloc (Below.refl _ _) _))
  have OW3 : Hid (((wa.alloc Z0).alloc E0).drew.ownsRow wa.heap.size TSp 2 (.slice (some ⟨wa.heap.size + 1, 0, none⟩) 0 0) 0 []) := by
    have := own_below (own_e (wa.alloc Z0) (lo := wa.heap.size) (by simp)) (below_drew (Below.refl _ _))
    rw [show (wa.alloc Z0).heap.size = wa.heap.size + 1 by simp] at this
    exact this
  have ZW2 : Hid (Blk ((wa.alloc E0).alloc Z0).drew (wa.heap.size + 1) #[.int .i64 0, nilS, nilS] TRx) := by
    have := (blk_new (wa.alloc E0) #[.int .i64 0, nilS, nilS] TRx).below (below_drew (Below.refl _ _))
    rw [show (wa.alloc E0).heap.size = wa.heap.size + 1 by simp] at this
    exact this
  have ZW3 : Hid (Blk ((wa.alloc Z0).alloc E0).drew wa.heap.size #[.int .i64 0, nilS, nilS] TRx) := (((blk_new wa #[.int .i64 0, nilS, nilS] TRx).alloc _).below (below_drew (Below.refl _ _)))
  go_enter Tryd.func85, Tryd.ntmps85
  go_upto_region 1 with fail
  clear hwa
  go_cut [3] (fun s3 wx => LitMidP wa k s s3 wx)
  case first =>
    go_region_held3 (fun w' => Below wa.heap.size wa w' ∧ w'.cell? ⟨w.heap.size, 0, none⟩ = some (.int .i64 k) ∧ w'.cell? ⟨w.heap.size, 1, none⟩ = some (.slice A s.length c))
      ((refine (fun h => ⟨h, HM.out _ h⟩ : Below wa.heap.size wa _ → _) ?_; (repeat (first | exact BB.out | exact Below.refl _ _ | exact below_drew (Below.refl _ _) | refine below_alloc ?_ _ | refine below_drew ?_ | refine below_set ?_ (by first | exact Nat.le_refl _ | exact BB.out.size | exact Nat.le_succ _) _))))
      ((refine step_append_row (by rfl) (.tmp 7) (.tmp 9) 25 (by rfl) wa.heap.size TSp i0 (.agg #[.int .i64 0, .int .i64 0]) 2 16 Tryd.underlying25 hi hz0 hza hz2 rfl (by decide) _ 0 [] (by rfl) (by first | exact OW1.out | exact OW2.out | exact OW3.out) A s.length c (spcs s) (by rfl) (HS.out.below (by first | exact BW1.out | exact BW2.out | exact BW3.out)).row (spcs_length _) (spcs_one _) (by unfold maxLen; omega) (by omega) (by first | exact BW1.out.size | exact BW2.out.size | exact BW3.out.size) _ rfl s.length (Nat.zero_add _) ?_; intro A1 c1 wB hown hgrow hat; have OS : Hid (wB.ownsRow wa.heap.size TSp 2 (.slice A1 s.length c1) s.length (spcs s)) := hown; (first | have BB := Lib.hid (BW1.out.grown (show (wa.alloc E0).drew.grownBy wB (some wa.heap.size) from hgrow) BW1.out.size (fun k hk => by injection hk with hk; omega)) | (have g2 : ((wa.alloc E0).alloc Z0).drew.grownBy wB (some wa.heap.size) := hgrow; have BB := Lib.hid (BW2.out.grown g2 BW2.out.size (fun k hk => by injection hk with hk; omega)); have Z := ZW2.out.grown g2 (fun k hk => by injection hk with hk; omega); have HV : Hid (wa.heap.size + 1 ∉ vblk (.slice A1 s.length c1)) := hv2 (n := wa.heap.size) hat (by omega) (by first | (simp; done) | (simp; omega)); clear g2) | (have g3 : ((wa.alloc Z0).alloc E0).drew.grownBy wB (some (wa.heap.size + 1)) := hgrow; have BB := Lib.hid (BW3.out.grown g3 BW3.out.size (fun k hk => by injection hk with hk; omega)); have Z := ZW3.out.grown g3 (fun k hk => by injection hk with hk; omega); have HV : Hid (wa.heap.size ∉ vblk (.slice A1 s.length c1)) := hv2 (n := wa.heap.size + 1) hat (by omega) (by first | (simp; done) | (simp; omega)); clear g3)); (first | (have z0 := (Z.cell 0).trans rfl; have z1 := (Z.cell 1).trans rfl; have z2 := (Z.cell 2).trans rfl; have f0 := Z.free 0; have f1 := Z.free 1; have f2 := Z.free 2; have HZ := Lib.hid Z; clear Z) | skip); clear hown hgrow hat))
    all_goals
      go_wp2_with fail
      go_meet
      first
        | exact lit1 HS.out.len OS.out BB.out
        | exact lit2 HS.out.len OS.out BB.out HZ.out (by omega) HV.out
  case rest =>
    obtain ⟨g, vS, rfl, hm⟩ := hcut
    have hgl := hm.gl
    obtain ⟨A1, c1, eS, _⟩ := hm.set.sps
    subst eS
    have HBG := Lib.hid hm.blk
    have HOS := Lib.hid hm.set
    have HBE := Lib.hid hm.bel
    have HGS := Lib.hid hm.gS
    have hgc : g < wc.heap.size := hm.blk.lt
    have hzc : wa.heap.size ≤ wc.heap.size := hm.bel.size
    have HVS : Hid (∀ b, b ∈ vblk (.slice A1 s.length c1) → b < wc.heap.size) := fun b hb => (hm.set.lt b hb).2
    have HM1 := Lib.hid (M1.out.below hm.bel)
    have HM0 := Lib.hid (M0.out.below hm.bel)
    have hlen : ks.length ≤ 1073741824 := by omega
    clear hm HM HS M0 M1 OW1 OW2 OW3 BW1 BW2 BW3 ZW2 ZW3 hi hz0 hza hz2
    obtain ⟨i1, hi, hz0, hza, hz2⟩ := info_parts infoRx
    go_wp2_with fail
    go_loopg [4] (ks.length) (fun n i wr => ∃ j : Nat, j + n = ks.length ∧ i = .int .i64 j ∧ ∃ (A2 : Option Addr) (c2 : Nat) (L : List KInfo), Hid (KApp wr wc.heap.size ks j (.slice A2 j c2) L) ∧
      Hid (Blk wr g #[.int .i64 k, .slice A1 s.length c1, .slice A2 j c2] TRx) ∧ Hid (OwnSp wr wa.heap.size (.slice A1 s.length c1) s) ∧ Hid (Below wa.heap.size wa wr) ∧ Hid (Blk wr (w.heap.size + 1) #[.int .i64 0, nilS, nilS] TRx) ∧ Hid (Blk wr w.heap.size #[.int .i64 k, .slice A s.length c, .slice K ks.length ck] TRx) ∧ Hid (wc.heap.size ≤ wr.heap.size))
    case atStart => exact ⟨0, by omega, rfl, none, 0, [], KApp.first _ _ _, HBG, HOS, HBE, HM1, HM0, Nat.le_refl _⟩
    case round =>
      clear HBG HOS HBE HM1 HM0
      obtain ⟨j, hj, rfl, A2, c2, L, HX, HBG, HOS, HBE, HM1, HM0, HWZ⟩ := hrel
      have n2 : wr.cell? ⟨g, 2, none⟩ = some (.slice A2 j c2) := by rw [HBG.out.cell]; rfl
      have m2 : wr.cell? ⟨w.heap.size, 2, none⟩ = some (.slice K ks.length ck) := by rw [HM0.out.cell]; rfl
      by_cases hlt : j < ks.length
      · obtain ⟨a, r, x1, x2, rfl, HR, HD, HV, d0, d1, d2⟩ := (HK.out.below HBE.out).at_ j hlt
        obtain ⟨A3, c3, K3, e3, _, rfl, rfl, _⟩ := HV.out.parts
        have hmem := List.mem_of_getElem? HR.out
        have hks := size_kid hmem
        have HOW := Lib.hid HX.out.own
        have HVK : Hid (∀ b, b ∈ vblk (.slice A2 j c2) → wc.heap.size ≤ b) := fun b hb => HX.out.lo b (by simp [hb])
        have HBB : Hid (∀ q, (Value.slice A2 j c2).ownBlock = some q → q ≠ g) := fun q hq e => by have := HVK.out q (mem_vblk.2 hq); omega
        go_wp2
        go_region_law (first
          | (refine step_append_row (by rfl) (.tmp 20) (.tmp 27) 34 (by rfl) wc.heap.size TRx i1 (.agg #[.int .i64 0, nilS, nilS]) 3 56 Tryd.underlying34 hi hz0 hza hz2 rfl (by decide) (.slice A2 j c2) j (kcells (ks.take j) L) (by rfl) (own_below (own_below HOW.out BD.out) (below_alloc (Below.refl _ _) _)) (some ⟨wD.heap.size, 0, none⟩) 1 1 [.int .i64 r.kind, .slice A4 r.set.length c4, .slice K4 r.kids.length d4] (by rfl) (.inr ⟨⟨wD.heap.size, 0, none⟩, rfl, Nat.zero_le _, new_cells wD [.int .i64 r.kind, .slice A4 r.set.length c4, .slice K4 r.kids.length d4] TRx⟩) rfl (three_one _ _ _ _ _ _ _) (by unfold maxLen; omega) (by omega) (by simp; omega) _ rfl (j + 1) rfl ?_; intro A5 c5 wE hown hgrow hat; have HE := Lib.hid hown; have HG := Lib.hid hgrow; have HAT := Lib.hid hat; have ZB := ((HBG.out.below BD.out).alloc (.cells #[.int .i64 r.kind, .slice A4 r.set.length c4, .slice K4 r.kids.length d4] TRx)).grown hgrow HBB.out; have q2 := (ZB.cell 2).trans rfl; have f2 := ZB.free 2; have HZB := Lib.hid ZB; clear ZB hown hgrow hat)
          | (refine step_call (by rfl) 85 _ _ (by rfl) _ Tryd.func85 (by kernel_rfl) (by kernel_rfl) #[.agg #[.int .i64 r.kind, .slice A3 r.set.length c3, .slice K3 r.kids.length e3]] (by rfl) (ih' r hmem _ _ _ _ (HV.out.under (below_drew (Below.refl _ _))) (by omega)) ?_; rintro _ wD ⟨u1, u2, fp, rfl, ho, hnd, hf, b3⟩; rw [← Rex.eta r] at ho; obtain ⟨L4, fk4, _, _, hos4, hok4⟩ := ho.parts; obtain ⟨A4, c4, rfl, _⟩ := hos4.sps; obtain ⟨K4, d4, rfl, _, _⟩ := own_row hok4.hk; clear hos4 hok4; have BD : Hid (Below wr.heap.size wr wD) := below_then (below_drew (Below.refl _ _)) b3; have HO := Lib.hid ho; have HND := Lib.hid hnd; have HF : Hid (∀ b, b ∈ fp → wr.heap.size ≤ b) := hf; have hzD : wc.heap.size ≤ wD.heap.size := Nat.le_trans HWZ.out BD.out.size; clear ho hnd hf b3; have y2 := (((HBG.out.below BD.out).cell 2).trans rfl : wD.cell? ⟨g, 2, none⟩ = some (.slice A2 j c2)); have ya := fun o => cell_alloc y2 o))
        all_goals
          clear y2 ya q2 f2 n2 m2 d0 d1 d2
          go_wp2
          go_roundg (gk - 1)
          case rel =>
            have hgE : Hid (Below wr.heap.size wr wD) := BD.out
            have keep : ∀ b, b < wc.heap.size → b ≠ g → (wE.setCell ⟨g, 2, none⟩ (.slice A5 (j + 1) c5)).heap[b]? = wr.heap[b]? := fun b hb hne =>
              (Below.heap_setCell _ _ _ _ hne).trans ((HG.out.block b (by simp; omega) fun e => by have := HVK.out b (mem_vblk.2 e.symm); omega).trans (((below_alloc (Below.refl wD.heap.size wD) _).block b (by omega)).trans (BD.out.block b (Nat.lt_of_lt_of_le hb HWZ.out))))
            have hsz : wc.heap.size ≤ (wE.setCell ⟨g, 2, none⟩ (.slice A5 (j + 1) c5)).heap.size := by
              simp only [World.size_setCell]
              exact Nat.le_trans hzD (Nat.le_trans (by simp) HG.out.size)
            refine ⟨j + 1, by omega, by go_num, A5, c5, _, HX.out.snoc HR.out BD.out HO.out HF.out HND.out HE.out HG.out HAT.out hgc HWZ.out, Lib.hid (by simpa using HZB.out.set 2 (.slice A5 (j + 1) c5)), HOS.out.stay fun b hb => keep b (HVS.out b hb) fun e => HGS.out (e ▸ hb), ?_, ⟨(keep _ (by omega) (by omega)).trans HM1.out.eq⟩, ⟨(keep _ (by omega) (by omega)).trans HM0.out.eq⟩, hsz⟩
            refine ((below_then HBE.out (below_then BD.out ((below_alloc (Below.refl wD.heap.size wD) _)))).grown HG.out (by simp; omega) fun q hq => ?_) |> fun hb => below_set hb hgl _
            have := HVK.out q (mem_vblk.2 hq)
            omega
          case measure => omega
      · have hj' : j = ks.length := by omega
        subst hj'
        have HOK := Lib.hid (HX.out.done rfl (by unfold maxN; omega))
        have HFK : Hid (∀ b, b ∈ vblk (.slice A2 ks.length c2) ++ fps L → wa.heap.size ≤ b ∧ b ∉ vblk (.slice A1 s.length c1)) := fun b hb => ⟨Nat.le_trans hzc (HX.out.lo b hb), fun h => by have h1 := HX.out.lo b hb; have h2 := HVS.out b h; omega⟩
        have HM1' := HM1
        clear hj HX n2
        go_wp2_with (first
          | (refine ev_load (o := ⟨some 30, _, _, _, _, _⟩) rfl TRx _ rfl g rfl [.int .i64 k, .slice A1 s.length c1, .slice A2 ks.length c2] TRx HBG.out _ Tryd.underlying36 rfl (sizeRx' _ _ _) ?_)
          | (refine ev_store (o := ⟨none, .store _ (.tmp 2) _, _, _, _, _⟩) rfl rfl TRx (.tmp 2) (.tmp 30) rfl (w.heap.size + 1) 0 rfl [.int .i64 k, .slice A1 s.length c1, .slice A2 ks.length c2] rfl _ TRx HM1.out (sizeRx' _ _ _) (by show 0 + 3 ≤ 3; omega) (three_one _ _ _ _ _ _ _) ?_; intro w5 hX5 hg5; have HX5 : Hid (Blk w5 (w.heap.size + 1) #[.int .i64 k, .slice A1 s.length c1, .slice A2 ks.length c2] TRx) := hX5; have HG5 := Lib.hid hg5; clear hX5 hg5))
        refine bodyPost_ret (results_cell_row rfl _ _ (w.heap.size + 1) TRx _ (0, 0) _ rfl HX5.out.eq Tryd.underlying36 rfl (by rw [sizeRx]; rfl)) rfl ?_
        exact copy_fin hz1 HB.out HOS.out HOK.out HBE.out HFK.out HG5.out

end Go.Proofs.YtlchipjckgaclaaDoor

/- NormNot, NormStar, of the program and of the reference. -/
namespace Go.Proofs.YtlchipjckgaclaaDoor
set_option linter.unusedSimpArgs false
set_option linter.unusedVariables false
set_option maxRecDepth 100000
open Go.RowKit

def noRex : Rex := .mk 0 [] []
def norm60 (f : Rex → Rex) (r : Rex) : Rex := if formed 60 r = true then f r else noRex
theorem OwnT.leaf (w : World) (k : Int) : OwnT w [] (.mk k [] []) nilS nilS := OwnT.of (fk := []) (k := k) (OwnSp.nil w 0) OwnK.empty (by simp [vblk_nil])
theorem kid0_size (r : Rex) : (kid0 r).size ≤ r.size := by
  obtain ⟨k, s, ks⟩ := r
  show (ks.getD 0 default).size ≤ _
  cases ks with
  | nil => show (default : Rex).size ≤ _; show (Rex.mk 0 [] []).size ≤ _; simp [Rex.size, sizeL]
  | cons x xs => show x.size ≤ _; rw [Rex.size, sizeL]; omega
theorem one_size (k : Int) (r : Rex) : (Rex.mk k [] [r]).size = r.size + 1 := by simp [Rex.size, sizeL]; omega
theorem nNot_size (r : Rex) : (nNot r).size ≤ r.size + 1 := by
  unfold nNot
  split
  · have := kid0_size r; omega
  · rw [one_size]; exact Nat.le_refl _
theorem nStar_size (r : Rex) : (nStar r).size ≤ r.size + 1 := by
  unfold nStar
  split
  · omega
  · split
    · simp [Rex.size, sizeL]
    · rw [one_size]; exact Nat.le_refl _
theorem own_fin {w wr w5 : World} {fp : List Nat} {t : Rex} {u1 u2 : Value} {R n : Nat} (HO : OwnT wr fp t u1 u2) (HN : fp.Nodup) (HF : ∀ b, b ∈ fp → n ≤ b) (hn : R < n) (hR : w.heap.size ≤ R) (HB : Below w.heap.size w wr) (HG : wr.grownBy w5 (some R)) :
    CopyPost t.kind t.set t.kids w (.returned (.agg #[.int .i64 t.kind, u1, u2])) w5 := by
  refine ⟨u1, u2, fp, rfl, ?_, HN, fun b hb => by have := HF b hb; omega, HB.grown HG HB.size fun q hq => by injection hq with hq; omega⟩
  rw [← Rex.eta]
  exact HO.stay fun b hb => HG.block b (HO.lt b hb) fun e => by injection e with e; have := HF b hb; omega
theorem CopyPost.own {k : Int} {s : List Sp} {ks : List Rex} {w : World} {e : Ending} {w' : World} (h : CopyPost k s ks w e w') :
    ∃ A c K ck fp, e = .returned (.agg #[.int .i64 k, .slice A s.length c, .slice K ks.length ck]) ∧ OwnT w' fp (.mk k s ks) (.slice A s.length c) (.slice K ks.length ck) ∧ fp.Nodup ∧ (∀ b, b ∈ fp → w.heap.size ≤ b) ∧ Below w.heap.size w w' := by
  obtain ⟨u1, u2, fp, rfl, ho, hn, hf, hb⟩ := h
  obtain ⟨L, fk, _, _, hs, hk⟩ := ho.parts
  obtain ⟨A, c, rfl, _⟩ := hs.sps
  obtain ⟨K, ck, rfl, _, _⟩ := own_row hk.hk
  exact ⟨A, c, K, ck, fp, rfl, ho, hn, hf, hb⟩

end Go.Proofs.YtlchipjckgaclaaDoor

/- What draws a tree: l2Byte, l2Leaf. -/
namespace Go.Proofs.YtlchipjckgaclaaDoor
set_option linter.unusedSimpArgs false
set_option linter.unusedVariables false
set_option maxRecDepth 100000
open Go.RowKit

theorem own_one (w : World) (a b : Int) : OwnSp (w.alloc (.cells #[.int .i64 a, .int .i64 b] TSp)) w.heap.size (.slice (some ⟨w.heap.size, 0, none⟩) 1 1) [⟨a, b⟩] :=
  ⟨own_of_blk (cs := [.int .i64 a, .int .i64 b]) (n := 1) (blk_new w #[.int .i64 a, .int .i64 b] TSp) (by simp) (Nat.le_refl _) (by decide), by simp [maxN]⟩
theorem OwnT.setOnly {w : World} {base : Nat} {v : Value} {s : List Sp} (k : Int) (h : OwnSp w base v s) : OwnT w (vblk v) (.mk k s []) v nilS := by
  have := OwnT.of (fk := []) (k := k) (OwnSp.lower h (Nat.zero_le base)) OwnK.empty (by simpa using vblk_nodup v)
  simpa using this
/-- a tree was drawn -/
def DrawT (g p n m : Nat) (w : World) (e : Ending) (w' : World) : Prop :=
  ∃ r A c K ck fp q, e = .returned (.agg #[.int .i64 r.kind, .slice A r.set.length c, .slice K r.kids.length ck]) ∧ OwnT w' fp r (.slice A r.set.length c) (.slice K r.kids.length ck) ∧ fp.Nodup ∧ (∀ b, b ∈ fp → w.heap.size ≤ b) ∧ r.size ≤ m ∧ Rd w' g q ∧ q ≤ p + n ∧ w.grownBy w' (some g)
theorem draw_fin {w wr w5 : World} {fp : List Nat} {t : Rex} {A K : Option Addr} {k1 k2 c ck : Nat} {R g p q n m nn : Nat} (e1 : k1 = t.set.length) (e2 : k2 = t.kids.length) (HO : OwnT wr fp t (.slice A k1 c) (.slice K k2 ck)) (HF : ∀ b, b ∈ fp → nn ≤ b) (hn : R < nn) (hR : w.heap.size ≤ R) (HB : w.grownBy wr (some g)) (HR : Rd wr g q) (hg : g < w.heap.size)
    (hs : t.size ≤ m) (hq : q ≤ p + n) (HG : wr.grownBy w5 (some R)) : DrawT g p n m w (.returned (.agg #[.int .i64 t.kind, .slice A k1 c, .slice K k2 ck])) w5 := by
  subst e1 e2
  obtain ⟨_, _, _, hnd, _⟩ := HO.parts
  refine ⟨t, A, c, K, ck, fp, q, rfl, ?_, hnd, fun b hb => by have := HF b hb; omega, hs, HR.grown HG (fun k hk => by injection hk with hk; omega), hq, grown_row HB HG fun k hk => by injection hk with hk; omega⟩
  exact HO.stay fun b hb => HG.block b (HO.lt b hb) fun e => by injection e with e; have := HF b hb; omega

set_option maxHeartbeats 1000000 in
theorem sByte_c (b : Int) (w : World) :
    Calls Tryd.prog 110 #[.int .i64 b] w fun e w' => ∃ A c fp, e = .returned (.agg #[.int .i64 1, .slice A 1 c, nilS]) ∧ OwnT w' fp (.mk 1 [⟨b, b⟩] []) (.slice A 1 c) nilS ∧ (∀ x, x ∈ fp → w.heap.size < x) ∧ Below w.heap.size w w' := by
  obtain ⟨wa, hwa⟩ : ∃ x, x = (w.alloc (.cells #[.int .i64 0, nilS, nilS] TRx)).alloc (.cells #[.int .i64 b, .int .i64 b] TSp) := ⟨_, rfl⟩
  have M1 : Hid (Blk wa w.heap.size #[.int .i64 0, nilS, nilS] TRx) := by rw [hwa]; exact (blk_new w _ _).alloc _
  have HO : Hid (OwnSp wa (w.heap.size + 1) (.slice (some ⟨w.heap.size + 1, 0, none⟩) 1 1) [⟨b, b⟩]) := by
    have := own_one (w.alloc (.cells #[.int .i64 0, nilS, nilS] TRx)) b b
    rw [hwa]
    rw [show (w.alloc (.cells #[.int .i64 0, nilS, nilS] TRx)).heap.size = w.heap.size + 1 by simp] at this
    exact this
  have HB : Hid (Below w.heap.size w wa) := by rw [hwa]; exact below_alloc (below_alloc (Below.refl _ _) _) _
  replace hwa := hwa.symm
  go_enter Tryd.func110, Tryd.ntmps110
  go_wp2_with (refine ev_store (o := ⟨none, .store _ (.tmp 2) _, _, _, _, _⟩) rfl rfl TRx (.tmp 2) (.tmp 7) rfl (w.heap.size) 0 rfl [.int .i64 1, .slice (some ⟨w.heap.size + 1, 0, none⟩) 1 1, nilS] rfl _ TRx M1.out (sizeRx' _ _ _) (by show 0 + 3 ≤ 3; omega) (three_one _ _ _ _ _ _ _) ?_; intro w5 hX5 hg5; have HX5 : Hid (Blk w5 (w.heap.size) ([.int .i64 1, .slice (some ⟨w.heap.size + 1, 0, none⟩) 1 1, nilS]).toArray TRx) := hX5; have HG5 := Lib.hid hg5; clear hX5 hg5)
  refine bodyPost_ret (results_cell_row rfl _ _ (w.heap.size) TRx _ (0, 0) _ rfl HX5.out.eq Tryd.underlying36 rfl (by rw [sizeRx]; rfl)) rfl ?_
  refine ⟨some ⟨w.heap.size + 1, 0, none⟩, 1, [w.heap.size + 1], rfl, ?_, fun x hx => by simp at hx; omega, HB.out.grown HG5.out HB.out.size fun q hq => by injection hq with hq; omega⟩
  exact OwnT.stay (OwnT.setOnly 1 HO.out) fun b hb => HG5.out.block b ((OwnT.setOnly 1 HO.out).lt b hb) fun e => by injection e with e; simp [vblk_some] at hb; omega


set_option maxHeartbeats 2000000 in
theorem sLeaf_c (g p : Nat) (w : World) (h : Rd w g p) (hp : p ≤ 800000) :
    Calls Tryd.prog 97 #[.pointer (some ⟨g, 0, none⟩)] w (DrawT g p 15 300 w) := by
  obtain ⟨wa, hwa⟩ : ∃ x, x = w.alloc (.cells #[.int .i64 0, nilS, nilS] TRx) := ⟨_, rfl⟩
  have M1 : Hid (Blk wa w.heap.size #[.int .i64 0, nilS, nilS] TRx) := by rw [hwa]; exact blk_new w _ _
  have GA : Hid (w.grownBy wa (some g)) := by rw [hwa]; exact grown_below (below_alloc (Below.refl _ _) _)
  have RA : Hid (Rd wa g p) := by rw [hwa]; exact h.below (below_alloc (Below.refl _ _) _)
  have hza : wa.heap.size = w.heap.size + 1 := by rw [hwa]; simp
  have hg := h.lt
  replace hwa := hwa.symm
  go_enter Tryd.func97, Tryd.ntmps97
  go_wp2_with fail
  clear hwa h
  refine (pick_c g p 9 _ RA.out (by omega) (by omega) (by omega)).mono ?_
  rintro e w1 ⟨r, rfl, r0, r1, HR, HG⟩
  have M1a := Lib.hid (M1.out.grown HG (fun k hk => by injection hk with hk; omega))
  have GAa := Lib.hid (grown_then GA.out HG)
  have Za := HG.size
  clear HG
  by_cases c0 : r = 0
  · subst c0
    go_wp2_with (refine ev_store (o := ⟨none, .store _ (.tmp 2) _, _, _, _, _⟩) rfl rfl TRx (.tmp 2) (.tmp 7) rfl (w.heap.size) 0 rfl [.int .i64 2, nilS, nilS] rfl _ TRx M1a.out (sizeRx' _ _ _) (by show 0 + 3 ≤ 3; omega) (three_one _ _ _ _ _ _ _) ?_; intro w5 hX5 hg5; have HX5 : Hid (Blk w5 (w.heap.size) ([.int .i64 2, nilS, nilS]).toArray TRx) := hX5; have HG5 := Lib.hid hg5; clear hX5 hg5)
    refine bodyPost_ret (results_cell_row rfl _ _ (w.heap.size) TRx _ (0, 0) _ rfl HX5.out.eq Tryd.underlying36 rfl (by rw [sizeRx]; rfl)) rfl ?_
    exact draw_fin (t := .mk 2 [] []) rfl rfl (OwnT.leaf _ 2) (fun b hb => absurd hb (List.not_mem_nil)) (Nat.lt_succ_self _) (Nat.le_refl _) GAa.out HR hg (by simp [Rex.size, sizeL]) (by omega) HG5.out
  have d0 : (r == 0) = false := by simp [c0]
  by_cases c1 : r = 1
  · subst c1
    obtain ⟨wb, hwb⟩ : ∃ x, x = w1.alloc (.cells #[.int .i64 97, .int .i64 98] TSp) := ⟨_, rfl⟩
    have HO : Hid (OwnSp wb w1.heap.size (.slice (some ⟨w1.heap.size, 0, none⟩) 1 1) [⟨97, 98⟩]) := by rw [hwb]; exact own_one w1 97 98
    have hgb : w1.grownBy wb (some g) := by rw [hwb]; exact grown_below (below_alloc (Below.refl _ _) _)
    have M1b := Lib.hid (M1a.out.grown hgb (fun k hk => by injection hk with hk; omega))
    have GAb := Lib.hid (grown_then GAa.out hgb)
    have Zb := hgb.size
    have HRb := Lib.hid (HR.below (show Below w1.heap.size w1 wb by rw [hwb]; exact below_alloc (Below.refl _ _) _))
    clear hgb
    replace hwb := hwb.symm
    go_wp2_with (refine ev_store (o := ⟨none, .store _ (.tmp 2) _, _, _, _, _⟩) rfl rfl TRx (.tmp 2) (.tmp 12) rfl (w.heap.size) 0 rfl [.int .i64 1, .slice (some ⟨w1.heap.size, 0, none⟩) 1 1, nilS] rfl _ TRx M1b.out (sizeRx' _ _ _) (by show 0 + 3 ≤ 3; omega) (three_one _ _ _ _ _ _ _) ?_; intro w5 hX5 hg5; have HX5 : Hid (Blk w5 (w.heap.size) ([.int .i64 1, .slice (some ⟨w1.heap.size, 0, none⟩) 1 1, nilS]).toArray TRx) := hX5; have HG5 := Lib.hid hg5; clear hX5 hg5)
    refine bodyPost_ret (results_cell_row rfl _ _ (w.heap.size) TRx _ (0, 0) _ rfl HX5.out.eq Tryd.underlying36 rfl (by rw [sizeRx]; rfl)) rfl ?_
    exact draw_fin (t := .mk 1 [⟨97, 98⟩] []) rfl rfl (OwnT.setOnly 1 HO.out) (fun b hb => (HO.out.lt b hb).1) (by omega) (Nat.le_refl _) GAb.out HRb.out hg (by simp [Rex.size, sizeL]) (by omega) HG5.out
  have d1 : (r == 1) = false := by simp [c1]
  by_cases c2 : r = 2
  · subst c2
    go_wp2_with fail
    refine (l1Set_c g (p + 1) w1 HR (by omega)).mono ?_
    rintro e w2 ⟨f, v, q, rfl, o, _, HR2, hq, HG2⟩
    have M1b := Lib.hid (M1a.out.grown HG2 (fun k hk => by injection hk with hk; omega))
    have GAb := Lib.hid (grown_then GAa.out HG2)
    have Zb := HG2.size
    have hl := spansOf_len f
    have HO := Lib.hid o
    have H2 := Lib.hid HR2
    obtain ⟨A2, c2, rfl, _⟩ := o.sps
    clear o HR2 HG2 HR
    go_wp2_with (refine ev_store (o := ⟨none, .store _ (.tmp 2) _, _, _, _, _⟩) rfl rfl TRx (.tmp 2) (.tmp 17) rfl (w.heap.size) 0 rfl [.int .i64 1, .slice A2 (spansOf f).length c2, nilS] rfl _ TRx M1b.out (sizeRx' _ _ _) (by show 0 + 3 ≤ 3; omega) (three_one _ _ _ _ _ _ _) ?_; intro w5 hX5 hg5; have HX5 : Hid (Blk w5 (w.heap.size) ([.int .i64 1, .slice A2 (spansOf f).length c2, nilS]).toArray TRx) := hX5; have HG5 := Lib.hid hg5; clear hX5 hg5)
    refine bodyPost_ret (results_cell_row rfl _ _ (w.heap.size) TRx _ (0, 0) _ rfl HX5.out.eq Tryd.underlying36 rfl (by rw [sizeRx]; rfl)) rfl ?_
    exact draw_fin (t := .mk 1 (spansOf f) []) rfl rfl (OwnT.setOnly 1 HO.out) (fun b hb => (HO.out.lt b hb).1) (by omega) (Nat.le_refl _) GAb.out H2.out hg (by simp [Rex.size, sizeL]; omega) (by omega) HG5.out
  have d2 : (r == 2) = false := by simp [c2]
  by_cases c3 : r = 3
  · subst c3
    go_wp2_with fail
    refine (pick_c g (p + 1) 3 _ HR (by omega) (by omega) (by omega)).mono ?_
    rintro e w2 ⟨z, rfl, z0, z1, HR2, HG2⟩
    have M1b := Lib.hid (M1a.out.grown HG2 (fun k hk => by injection hk with hk; omega))
    have GAb := Lib.hid (grown_then GAa.out HG2)
    have Zb := HG2.size
    clear HG2 HR
    by_cases c4 : z = 0
    · subst c4
      go_wp2_with (refine ev_store (o := ⟨none, .store _ (.tmp 2) _, _, _, _, _⟩) rfl rfl TRx (.tmp 2) (.tmp 23) rfl (w.heap.size) 0 rfl [.int .i64 1, nilS, nilS] rfl _ TRx M1b.out (sizeRx' _ _ _) (by show 0 + 3 ≤ 3; omega) (three_one _ _ _ _ _ _ _) ?_; intro w5 hX5 hg5; have HX5 : Hid (Blk w5 (w.heap.size) ([.int .i64 1, nilS, nilS]).toArray TRx) := hX5; have HG5 := Lib.hid hg5; clear hX5 hg5)
      refine bodyPost_ret (results_cell_row rfl _ _ (w.heap.size) TRx _ (0, 0) _ rfl HX5.out.eq Tryd.underlying36 rfl (by rw [sizeRx]; rfl)) rfl ?_
      exact draw_fin (t := .mk 1 [] []) rfl rfl (OwnT.leaf _ 1) (fun b hb => absurd hb (List.not_mem_nil)) (Nat.lt_succ_self _) (Nat.le_refl _) GAb.out HR2 hg (by simp [Rex.size, sizeL]) (by omega) HG5.out
    have d4 : (z == 0) = false := by simp [c4]
    go_wp2_with fail
    refine (pick_c g (p + 1 + 1) 3 _ HR2 (by omega) (by omega) (by omega)).mono ?_
    rintro e w3 ⟨y, rfl, y0, y1, HR3, HG3⟩
    have M1c := Lib.hid (M1b.out.grown HG3 (fun k hk => by injection hk with hk; omega))
    have GAc := Lib.hid (grown_then GAb.out HG3)
    have Zc := HG3.size
    clear HG3 HR2
    go_wp2_with fail
    refine (sByte_c _ w3).mono ?_
    rintro e w4 ⟨A4, c4, fp, rfl, o, hf, b4⟩
    have hgb := grown_below b4 (row := some g)
    have M1d := Lib.hid (M1c.out.grown hgb (fun k hk => by injection hk with hk; omega))
    have GAd := Lib.hid (grown_then GAc.out hgb)
    have Zd := hgb.size
    have HRb := Lib.hid (HR3.below b4)
    have HO := Lib.hid o
    have HF := Lib.hid hf
    clear hgb HR3 b4 o hf
    go_wp2_with (refine ev_store (o := ⟨none, .store _ (.tmp 2) _, _, _, _, _⟩) rfl rfl TRx (.tmp 2) (.tmp 27) rfl (w.heap.size) 0 rfl [.int .i64 1, .slice A4 1 c4, nilS] rfl _ TRx M1d.out (sizeRx' _ _ _) (by show 0 + 3 ≤ 3; omega) (three_one _ _ _ _ _ _ _) ?_; intro w5 hX5 hg5; have HX5 : Hid (Blk w5 (w.heap.size) ([.int .i64 1, .slice A4 1 c4, nilS]).toArray TRx) := hX5; have HG5 := Lib.hid hg5; clear hX5 hg5)
    refine bodyPost_ret (results_cell_row rfl _ _ (w.heap.size) TRx _ (0, 0) _ rfl HX5.out.eq Tryd.underlying36 rfl (by rw [sizeRx]; rfl)) rfl ?_
    exact draw_fin (t := .mk 1 [_] []) rfl rfl HO.out (fun b hb => Nat.le_of_lt (HF.out b hb)) (by omega) (Nat.le_refl _) GAd.out HRb.out hg (by simp [Rex.size, sizeL]) (by omega) HG5.out
  have d3 : (r == 3) = false := by simp [c3]
  go_wp2_with fail
  refine (pick_c g (p + 1) 3 _ HR (by omega) (by omega) (by omega)).mono ?_
  rintro e w3 ⟨y, rfl, y0, y1, HR3, HG3⟩
  have M1c := Lib.hid (M1a.out.grown HG3 (fun k hk => by injection hk with hk; omega))
  have GAc := Lib.hid (grown_then GAa.out HG3)
  have Zc := HG3.size
  clear HG3 HR
  go_wp2_with fail
  refine (sByte_c _ w3).mono ?_
  rintro e w4 ⟨A4, c4, fp, rfl, o, hf, b4⟩
  have hgb := grown_below b4 (row := some g)
  have M1d := Lib.hid (M1c.out.grown hgb (fun k hk => by injection hk with hk; omega))
  have GAd := Lib.hid (grown_then GAc.out hgb)
  have Zd := hgb.size
  have HRb := Lib.hid (HR3.below b4)
  have HO := Lib.hid o
  have HF := Lib.hid hf
  clear hgb HR3 b4 o hf
  go_wp2_with (refine ev_store (o := ⟨none, .store _ (.tmp 2) _, _, _, _, _⟩) rfl rfl TRx (.tmp 2) (.tmp 27) rfl (w.heap.size) 0 rfl [.int .i64 1, .slice A4 1 c4, nilS] rfl _ TRx M1d.out (sizeRx' _ _ _) (by show 0 + 3 ≤ 3; omega) (three_one _ _ _ _ _ _ _) ?_; intro w5 hX5 hg5; have HX5 : Hid (Blk w5 (w.heap.size) ([.int .i64 1, .slice A4 1 c4, nilS]).toArray TRx) := hX5; have HG5 := Lib.hid hg5; clear hX5 hg5)
  refine bodyPost_ret (results_cell_row rfl _ _ (w.heap.size) TRx _ (0, 0) _ rfl HX5.out.eq Tryd.underlying36 rfl (by rw [sizeRx]; rfl)) rfl ?_
  exact draw_fin (t := .mk 1 [_] []) rfl rfl HO.out (fun b hb => Nat.le_of_lt (HF.out b hb)) (by omega) (Nat.le_refl _) GAd.out HRb.out hg (by simp [Rex.size, sizeL]) (by omega) HG5.out

end Go.Proofs.YtlchipjckgaclaaDoor

/- What draws a tree: l2Rex. -/
namespace Go.Proofs.YtlchipjckgaclaaDoor
set_option linter.unusedSimpArgs false
set_option linter.unusedVariables false
set_option maxRecDepth 100000
open Go.RowKit

theorem KApp.widen {w : World} {lo : Nat} {ks : List Rex} {v : Value} {L : List KInfo} (h : KApp w lo ks ks.length v L) (r : Rex) : KApp w lo (ks ++ [r]) ks.length v L := by
  refine ⟨?_, h.len, by simp, fun i r' x hi hx => ?_, h.nd, h.lo⟩
  · have := h.own
    rw [List.take_length] at this
    rw [List.take_left]
    exact this
  · have hl := (List.getElem?_eq_some_iff.1 hx).1
    have hlen := h.len
    rw [List.getElem?_append_left (by omega)] at hi
    exact h.hr i r' x hi hx
theorem KApp.snoc2 {wr wD wE : World} {lo : Nat} {ks : List Rex} {v v' : Value} {L : List KInfo} {r : Rex} {fp : List Nat} {v1 v2 : Value} {O : Obj} {g o gr : Nat} {u : Value} (h0 : KApp wr lo ks ks.length v L) (b2 : wr.grownBy wD (some gr)) (hgr : gr < lo)
    (ho : OwnT wD fp r v1 v2) (hf : ∀ b, b ∈ fp → wr.heap.size ≤ b) (hn : fp.Nodup) (he : wE.ownsRow lo TRx 3 v' (ks.length + 1) (kcells (ks.take ks.length) L ++ [.int .i64 r.kind, v1, v2])) (hg : (wD.alloc O).grownBy wE v.ownBlock)
    (hat : ∀ b, b ∈ vblk v' → b ∈ vblk v ∨ b = (wD.alloc O).heap.size) (hgl : g < lo) (hlo : lo ≤ wr.heap.size) : KApp (wE.setCell ⟨g, o, none⟩ u) lo (ks ++ [r]) (ks.length + 1) v' (L ++ [⟨fp, v1, v2⟩]) := by
  have h := h0.widen r
  have hr : (ks ++ [r])[ks.length]? = some r := by simp
  have hj := (List.getElem?_eq_some_iff.1 hr).1
  have hlen := h.len
  have hlt := h.lt
  obtain ⟨n1, n2, n3⟩ := List.nodup_append.1 h.nd
  have hz : (wD.alloc O).heap.size = wD.heap.size + 1 := by simp
  rw [hz] at hat
  have hzD := b2.size
  have stay : ∀ b, b < wD.heap.size → b ∉ vblk v → b ≠ g → (wE.setCell ⟨g, o, none⟩ u).heap[b]? = wD.heap[b]? := fun b hb hv hbg =>
    (Below.heap_setCell _ _ _ _ hbg).trans ((hg.block b (by rw [hz]; omega) fun e => hv (mem_vblk.2 e.symm)).trans ((below_alloc (Below.refl wD.heap.size wD) O).block b hb))
  refine ⟨?_, by simp [hlen], by simp, ?_, ?_, ?_⟩
  · have e : kcells ((ks ++ [r]).take (ks.length + 1)) (L ++ [⟨fp, v1, v2⟩]) = kcells (ks.take ks.length) L ++ [.int .i64 r.kind, v1, v2] := by
      rw [List.take_of_length_le (by simp), List.take_length]
      exact kcells_append _ _ _ ⟨fp, v1, v2⟩ (by omega)
    rw [e]
    exact own_move he fun b hb => Below.heap_setCell _ _ _ _ (fun e => by have := (own_vlt he b (mem_vblk.2 hb)).1; have e' : b = g := e; omega)
  · intro i r' x hi hx
    by_cases e : i < L.length
    · rw [List.getElem?_append_left e] at hx
      have hT := h.hr i r' x hi hx
      refine (hT.stay fun b hb => b2.block b (hT.lt b hb) fun e => ?_).stay fun b hb => stay b (Nat.lt_of_lt_of_le (hT.lt b hb) hzD) (fun hv => n3 b hv b (mem_fps.2 ⟨i, x, hx, hb⟩) rfl) fun eg => ?_
      · injection e with e
        have := h.lo b (by simp [mem_fps.2 ⟨i, x, hx, hb⟩])
        omega
      · have := h.lo b (by simp [mem_fps.2 ⟨i, x, hx, hb⟩])
        omega
    · have e2 : i = L.length := by
        have := (List.getElem?_eq_some_iff.1 hx).1
        simp at this
        omega
      subst e2
      rw [hlen, hr] at hi
      obtain rfl := Option.some.inj hi
      simp at hx
      subst hx
      refine ho.stay fun b hb => stay b (ho.lt b hb) (fun hv => ?_) fun eg => ?_
      · have := (own_vlt h.own b hv).2; have := hf b hb; omega
      · have := hf b hb; omega
  · have e : fps (L ++ [⟨fp, v1, v2⟩]) = fps L ++ fp := by rw [fps_append]; simp [fps]
    rw [e]
    refine List.nodup_append.2 ⟨vblk_nodup _, List.nodup_append.2 ⟨n2, hn, fun a ha b hb eq => ?_⟩, fun a ha b hb eq => ?_⟩
    · have := hlt a (by simp [ha]); have := hf b hb; omega
    · subst eq
      rcases hat a ha with hv | hv
      · rcases List.mem_append.1 hb with hb | hb
        · exact n3 a hv a hb rfl
        · have := (own_vlt h.own a hv).2; have := hf a hb; omega
      · rcases List.mem_append.1 hb with hb | hb
        · have := hlt a (by simp [hb]); omega
        · have := ho.lt a hb; omega
  · have e : fps (L ++ [⟨fp, v1, v2⟩]) = fps L ++ fp := by rw [fps_append]; simp [fps]
    rw [e]
    intro b hb
    rcases List.mem_append.1 hb with hb | hb
    · exact (own_vlt he b hb).1
    · rcases List.mem_append.1 hb with hb | hb
      · exact h.lo b (by simp [hb])
      · exact Nat.le_trans hlo (hf b hb)


def NB : Nat → Nat
  | 0 => 30
  | d + 1 => 2 * NB d + 10
def MB : Nat → Nat
  | 0 => 400
  | d + 1 => 2 * MB d + 10
theorem NB_ge : ∀ d, 30 ≤ NB d
  | 0 => Nat.le_refl _
  | d + 1 => by have := NB_ge d; rw [NB]; omega
theorem MB_ge : ∀ d, 400 ≤ MB d
  | 0 => Nat.le_refl _
  | d + 1 => by have := MB_ge d; rw [MB]; omega
def LK : List Int := [3, 3, 3, 4, 4, 5, 5, 6, 7]
theorem kids_nat {k : Int} (h3 : 3 ≤ k) (h7 : k ≤ 7) : ∃ n : Nat, kidsOf k = n ∧ n ≤ 2 := by
  have : k = 3 ∨ k = 4 ∨ k = 5 ∨ k = 6 ∨ k = 7 := by omega
  rcases this with rfl | rfl | rfl | rfl | rfl
  · exact ⟨2, rfl, by omega⟩
  · exact ⟨2, rfl, by omega⟩
  · exact ⟨1, rfl, by omega⟩
  · exact ⟨2, rfl, by omega⟩
  · exact ⟨1, rfl, by omega⟩
theorem sizeL_snoc (ks : List Rex) (r : Rex) : sizeL (ks ++ [r]) = sizeL ks + r.size := by
  induction ks with
  | nil => simp [sizeL]
  | cons a l ih => rw [List.cons_append, sizeL, sizeL, ih]; omega

def DrawV (g p n m : Nat) (w : World) (e : Ending) (w' : World) : Prop :=
  ∃ v, e = .returned v ∧ ∃ r A c K ck fp q, v = .agg #[.int .i64 r.kind, .slice A r.set.length c, .slice K r.kids.length ck] ∧ OwnT w' fp r (.slice A r.set.length c) (.slice K r.kids.length ck) ∧ fp.Nodup ∧ (∀ b, b ∈ fp → w.heap.size ≤ b) ∧ r.size ≤ m ∧ Rd w' g q ∧ q ≤ p + n ∧ w.grownBy w' (some g)
theorem DrawT.v {g p n m : Nat} {w : World} {e : Ending} {w' : World} (h : DrawT g p n m w e w') : DrawV g p n m w e w' := by
  obtain ⟨r, A, c, K, ck, fp, q, he, rest⟩ := h
  exact ⟨_, he, r, A, c, K, ck, fp, q, rfl, rest⟩

set_option maxHeartbeats 2000000 in
theorem sDrawLeaf_c (g p N M : Nat) (d : Int) (hd : d ≤ 1) (w : World) (h : Rd w g p) (hp : p + N ≤ 700000) (hN : 30 ≤ N) (hM : 400 ≤ M) :
    Calls Tryd.prog 96 #[.pointer (some ⟨g, 0, none⟩), .int .i64 d] w (DrawT g p N M w) := by
  obtain ⟨wa, hwa⟩ : ∃ x, x = w.alloc (.cells #[.int .i64 0, nilS, nilS] TRx) := ⟨_, rfl⟩
  have N1a : Hid (Blk wa w.heap.size #[.int .i64 0, nilS, nilS] TRx) := by rw [hwa]; exact blk_new w _ _
  have GAa : Hid (w.grownBy wa (some g)) := by rw [hwa]; exact grown_below (below_alloc (Below.refl _ _) _)
  have RA : Hid (Rd wa g p) := by rw [hwa]; exact h.below (below_alloc (Below.refl _ _) _)
  have hza : wa.heap.size = w.heap.size + 1 := by rw [hwa]; simp
  have hg := h.lt
  replace hwa := hwa.symm
  go_enter Tryd.func96, Tryd.ntmps96
  go_wp2_with fail
  clear hwa h
  refine (sLeaf_c g p _ RA.out (by omega)).mono ?_
  rintro e w9 ⟨r9, A9, c9, K9, k9, fp9, q9, rfl, o9, n9, f9, s9, R9, hq9, G9⟩
  have N1z := Lib.hid (N1a.out.grown G9 (fun k hk => by injection hk with hk; omega))
  have GAz := Lib.hid (grown_then GAa.out G9)
  have Zz := G9.size
  have HO9 := Lib.hid o9
  have HF9 := Lib.hid f9
  have HR9 := Lib.hid R9
  clear o9 f9 R9 G9 n9
  go_wp2_with (refine ev_store (o := ⟨none, .store _ (.tmp 4) _, _, _, _, _⟩) rfl rfl TRx (.tmp 4) (.tmp 16) rfl (w.heap.size) 0 rfl [.int .i64 r9.kind, .slice A9 r9.set.length c9, .slice K9 r9.kids.length k9] rfl _ TRx N1z.out (sizeRx' _ _ _) (by show 0 + 3 ≤ 3; omega) (three_one _ _ _ _ _ _ _) ?_; intro w5 hX5 hg5; have HX5 : Hid (Blk w5 (w.heap.size) ([.int .i64 r9.kind, .slice A9 r9.set.length c9, .slice K9 r9.kids.length k9]).toArray TRx) := hX5; have HG5 := Lib.hid hg5; clear hX5 hg5)
  refine bodyPost_ret (results_cell_row rfl _ _ (w.heap.size) TRx _ (0, 0) _ rfl HX5.out.eq Tryd.underlying36 rfl (by rw [sizeRx]; rfl)) rfl ?_
  exact draw_fin rfl rfl HO9.out HF9.out (by omega) (Nat.le_refl _) GAz.out HR9.out hg (by omega) (by omega) HG5.out

set_option maxRecDepth 100000 in
set_option maxHeartbeats 4000000 in
theorem sDrawNode_c (g p N M N1 M1 d : Nat) (hd : 2 ≤ d) (hd2 : d ≤ 100) (w : World) (h : Rd w g p) (hp : p + N ≤ 700000) (eN : N = 2 * N1 + 10) (eM : M = 2 * M1 + 10) (hN : 30 ≤ N1) (hM : 400 ≤ M1)
    (ih : ∀ (p : Nat) (w : World), Rd w g p → p + N1 ≤ 700000 → Calls Tryd.prog 96 #[.pointer (some ⟨g, 0, none⟩), .int .i64 ((d : Int) - 1)] w (DrawT g p N1 M1 w)) :
    Calls Tryd.prog 96 #[.pointer (some ⟨g, 0, none⟩), .int .i64 (d : Int)] w (DrawT g p N M w) := by
  have hd1 : ¬ ((d : Nat) : Int) ≤ 1 := by omega
  obtain ⟨wa, hwa⟩ : ∃ x, x = w.alloc (.cells #[.int .i64 0, nilS, nilS] TRx) := ⟨_, rfl⟩
  have N1a : Hid (Blk wa w.heap.size #[.int .i64 0, nilS, nilS] TRx) := by rw [hwa]; exact blk_new w _ _
  have GAa : Hid (w.grownBy wa (some g)) := by rw [hwa]; exact grown_below (below_alloc (Below.refl _ _) _)
  have RA : Hid (Rd wa g p) := by rw [hwa]; exact h.below (below_alloc (Below.refl _ _) _)
  have hza : wa.heap.size = w.heap.size + 1 := by rw [hwa]; simp
  have hg := h.lt
  replace hwa := hwa.symm
  go_enter Tryd.func96, Tryd.ntmps96
  go_wp2_with fail
  clear hwa h
  refine (pick_c g p 4 _ RA.out (by omega) (by omega) (by omega)).mono ?_
  rintro e w1 ⟨r, rfl, r0, r1, HR, HG⟩
  have N1b := Lib.hid (N1a.out.grown HG (fun k hk => by injection hk with hk; omega))
  have GAb := Lib.hid (grown_then GAa.out HG)
  have Zb := HG.size
  clear HG
  by_cases c0 : r = 0
  · subst c0
    go_wp2_with fail
    refine (sLeaf_c g (p + 1) _ HR (by omega)).mono ?_
    rintro e w9 ⟨r9, A9, c9, K9, k9, fp9, q9, rfl, o9, n9, f9, s9, R9, hq9, G9⟩
    have N1z := Lib.hid (N1b.out.grown G9 (fun k hk => by injection hk with hk; omega))
    have GAz := Lib.hid (grown_then GAb.out G9)
    have Zz := G9.size
    have HO9 := Lib.hid o9
    have HF9 := Lib.hid f9
    have HR9 := Lib.hid R9
    clear o9 f9 R9 G9 n9
    go_wp2_with (refine ev_store (o := ⟨none, .store _ (.tmp 4) _, _, _, _, _⟩) rfl rfl TRx (.tmp 4) (.tmp 16) rfl (w.heap.size) 0 rfl [.int .i64 r9.kind, .slice A9 r9.set.length c9, .slice K9 r9.kids.length k9] rfl _ TRx N1z.out (sizeRx' _ _ _) (by show 0 + 3 ≤ 3; omega) (three_one _ _ _ _ _ _ _) ?_; intro w5 hX5 hg5; have HX5 : Hid (Blk w5 (w.heap.size) ([.int .i64 r9.kind, .slice A9 r9.set.length c9, .slice K9 r9.kids.length k9]).toArray TRx) := hX5; have HG5 := Lib.hid hg5; clear hX5 hg5)
    refine bodyPost_ret (results_cell_row rfl _ _ (w.heap.size) TRx _ (0, 0) _ rfl HX5.out.eq Tryd.underlying36 rfl (by rw [sizeRx]; rfl)) rfl ?_
    exact draw_fin rfl rfl HO9.out HF9.out (by omega) (Nat.le_refl _) GAz.out HR9.out hg (by omega) (by omega) HG5.out
  have d0 : (r == 0) = false := by simp [c0]
  have hlk : LK.length = 9 := rfl
  go_wp2_with fail
  refine (num_c g (p + 1) w1.heap.size 9 LK 3 7 _ (HR.below (below_alloc (Below.refl _ _) _)) (ints_new w1 LK _) (by have := HR.lt; omega) (by simp) (by decide) (by decide) (by decide) (by omega)).mono ?_
  rintro e w2 ⟨k, rfl, k3, k7, HR2, HG2⟩
  have HG2' := grown_then (grown_below (below_alloc (Below.refl w1.heap.size w1) _)) HG2
  have N1c := Lib.hid (N1b.out.grown HG2' (fun k hk => by injection hk with hk; omega))
  have GAc := Lib.hid (grown_then GAb.out HG2')
  have Zc := HG2'.size
  clear HG2' HG2 HR
  go_wp2_with fail
  obtain ⟨wc, hwc⟩ : ∃ x, x = w2.alloc (.cells #[.int .i64 k, nilS, nilS] TRx) := ⟨_, rfl⟩
  have MO : Hid (Blk wc w2.heap.size #[.int .i64 k, nilS, nilS] TRx) := by rw [hwc]; exact blk_new w2 _ _
  have hgc : w2.grownBy wc (some g) := by rw [hwc]; exact grown_below (below_alloc (Below.refl _ _) _)
  have N1d := Lib.hid (N1c.out.grown hgc (fun k hk => by injection hk with hk; omega))
  have GAd := Lib.hid (grown_then GAc.out hgc)
  have Zd := hgc.size
  have RC : Hid (Rd wc g (p + 1 + 1)) := by rw [hwc]; exact HR2.below (below_alloc (Below.refl _ _) _)
  have hzc : wc.heap.size = w2.heap.size + 1 := by rw [hwc]; simp
  rw [← hwc]
  clear hgc HR2 hwc
  refine (sKids_c _ _).mono ?_
  rintro e wk ⟨rfl, rfl⟩
  obtain ⟨n0, hn0, hn2⟩ := kids_nat k3 k7
  rw [hn0]
  obtain ⟨i1, hi, hz0, hza', hz2⟩ := info_parts infoRx
  go_wp2_with fail
  go_loopg [7] n0 (fun n i wr => i = .int .i64 n ∧ ∃ (ks : List Rex) (A2 : Option Addr) (c2 : Nat) (L : List KInfo) (q : Nat), ks.length + n = n0 ∧ Hid (KApp wr wc.heap.size ks ks.length (.slice A2 ks.length c2) L) ∧
    Hid (Blk wr w2.heap.size #[.int .i64 k, nilS, .slice A2 ks.length c2] TRx) ∧ Hid (Rd wr g q) ∧ Hid (q ≤ p + 2 + ks.length * N1) ∧ Hid (sizeL ks ≤ ks.length * M1) ∧ Hid (w.grownBy wr (some g)) ∧ Hid (Blk wr w.heap.size #[.int .i64 0, nilS, nilS] TRx) ∧ Hid (wc.heap.size ≤ wr.heap.size))
  case atStart => exact ⟨by rfl, [], none, 0, [], p + 1 + 1, by simp, KApp.first _ _ _, MO, RC, by show _ ≤ _; simp, by show _ ≤ _; simp [sizeL], GAd, N1d, Nat.le_refl _⟩
  case round =>
    clear MO RC GAd N1d
    obtain ⟨rfl, ks, A2, c2, L, q, hkn, HX, HBG, HR, HQ, HS, HGA, HM1, HWZ⟩ := hrel
    have n2 : wr.cell? ⟨w2.heap.size, 2, none⟩ = some (.slice A2 ks.length c2) := by rw [HBG.out.cell]; rfl
    have hkl : ks.length ≤ 2 := by omega
    have hq1 : ks.length * N1 ≤ 2 * N1 := Nat.mul_le_mul_right _ hkl
    have hs1 : ks.length * M1 ≤ 2 * M1 := Nat.mul_le_mul_right _ hkl
    by_cases hpos : 0 < gk
    · have hk1 : ks.length ≤ 1 := by omega
      have hq2 : ks.length * N1 ≤ 1 * N1 := Nat.mul_le_mul_right _ hk1
      have hqv := HQ.out
      have HOW := Lib.hid HX.out.own
      have HVK : Hid (∀ b, b ∈ vblk (.slice A2 ks.length c2) → wc.heap.size ≤ b) := fun b hb => HX.out.lo b (by simp [hb])
      have HBB : Hid (∀ q', (Value.slice A2 ks.length c2).ownBlock = some q' → q' ≠ w2.heap.size) := fun q' hq e => by have := HVK.out q' (mem_vblk.2 hq); omega
      have HBR : Hid (∀ q', (Value.slice A2 ks.length c2).ownBlock = some q' → g < q') := fun q' hq => by have := HVK.out q' (mem_vblk.2 hq); omega
      have ihc : Hid (Calls Tryd.prog 96 #[.pointer (some ⟨g, 0, none⟩), .int .i64 (IntKind.i64.wrap ((d : Int) - 1))] wr.drew (DrawV g q N1 M1 wr.drew)) := by
        show Calls _ _ _ _ _
        rw [IntWalk.i64_in ((d : Int) - 1) (by omega)]
        exact (ih q wr.drew (HR.out.below (below_drew (Below.refl _ _))) (by omega)).mono fun _ _ h => h.v
      go_wp2
      go_region_law (first
        | (refine step_append_row (by rfl) (.tmp 29) (.tmp 34) 34 (by rfl) wc.heap.size TRx i1 (.agg #[.int .i64 0, nilS, nilS]) 3 56 Tryd.underlying34 hi hz0 hza' hz2 rfl (by decide) (.slice A2 ks.length c2) ks.length (kcells (ks.take ks.length) L) (by rfl) (own_below OWD.out (below_alloc (Below.refl _ _) _)) (some ⟨wD.heap.size, 0, none⟩) 1 1 [.int .i64 r4.kind, .slice A4 r4.set.length c4, .slice K4 r4.kids.length d4] (by rfl) (.inr ⟨⟨wD.heap.size, 0, none⟩, rfl, Nat.zero_le _, new_cells wD [.int .i64 r4.kind, .slice A4 r4.set.length c4, .slice K4 r4.kids.length d4] TRx⟩) rfl (three_one _ _ _ _ _ _ _) (by unfold maxLen; omega) (by omega) (by simp; omega) _ rfl (ks.length + 1) rfl ?_; intro A5 c5 wE hown hgrow hat; have HE := Lib.hid hown; have HG := Lib.hid hgrow; have HAT := Lib.hid hat; have ZB := ((HBD.out).alloc (.cells #[.int .i64 r4.kind, .slice A4 r4.set.length c4, .slice K4 r4.kids.length d4] TRx)).grown hgrow HBB.out; have q2 := (ZB.cell 2).trans rfl; have f2 := ZB.free 2; have HZB := Lib.hid ZB; clear ZB hown hgrow hat)
        | (refine step_call (by rfl) 96 _ _ (by rfl) _ Tryd.func96 (by kernel_rfl) (by kernel_rfl) #[.pointer (some ⟨g, 0, none⟩), .int .i64 (IntKind.i64.wrap ((d : Int) - 1))] (by rfl) ihc.out ?_; rintro _ wD ⟨r4, A4, c4, K4, d4, fp, q4, rfl, ho, hnd, hf, hs4, hR4, hq4, hG4⟩; have hG5 := grown_then (grown_below (below_drew (Below.refl wr.heap.size wr))) hG4; have HBD := Lib.hid (HBG.out.grown hG5 (fun k hk => by injection hk with hk; omega)); have OWD : Hid (wD.ownsRow wc.heap.size TRx 3 (.slice A2 ks.length c2) ks.length (kcells (ks.take ks.length) L)) := own_move HOW.out fun b hb => hG5.block b (own_vlt HOW.out b (mem_vblk.2 hb)).2 (fun e => by injection e with e; have := HBR.out b hb; omega); have BD := Lib.hid hG5; have HO := Lib.hid ho; have HND := Lib.hid hnd; have HF : Hid (∀ b, b ∈ fp → wr.heap.size ≤ b) := hf; have HRD := Lib.hid hR4; have hzD : wc.heap.size ≤ wD.heap.size := Nat.le_trans HWZ.out hG5.size; clear ho hnd hf hG4 hG5 hR4; have y2 := (((HBD.out).cell 2).trans rfl : wD.cell? ⟨w2.heap.size, 2, none⟩ = some (.slice A2 ks.length c2)); have ya := fun o => cell_alloc y2 o))
      all_goals
        clear y2 ya q2 f2 n2
        go_wp2
        go_roundg (gk - 1)
        case rel =>
          have eL : (ks ++ [r4]).length = ks.length + 1 := by simp
          have zA : (wD.alloc (.cells #[.int .i64 r4.kind, .slice A4 r4.set.length c4, .slice K4 r4.kids.length d4] TRx)).heap.size = wD.heap.size + 1 := by simp
          have zE := HG.out.size
          have keep : ∀ b, b < wc.heap.size → b ≠ w2.heap.size → (wE.setCell ⟨w2.heap.size, 2, none⟩ (.slice A5 (ks.length + 1) c5)).heap[b]? = wD.heap[b]? := fun b hb hne =>
            (Below.heap_setCell _ _ _ _ hne).trans ((HG.out.block b (by simp; omega) fun e => by have := HVK.out b (mem_vblk.2 e.symm); omega).trans ((below_alloc (Below.refl wD.heap.size wD) _).block b (by omega)))
          refine ⟨by go_num, ks ++ [r4], A5, c5, L ++ [⟨fp, .slice A4 r4.set.length c4, .slice K4 r4.kids.length d4⟩], q4, ?_⟩
          rw [eL]
          refine ⟨by omega, HX.out.snoc2 (g := w2.heap.size) (gr := g) BD.out (by omega) HO.out HF.out HND.out HE.out HG.out HAT.out (by omega) HWZ.out, Lib.hid (by simpa using HZB.out.set 2 (.slice A5 (ks.length + 1) c5)), HRD.out.keep fun b hb => keep b (by omega) (by omega), ?_, ?_, ?_, ⟨(keep _ (by omega) (by omega)).trans (HM1.out.grown BD.out fun k hk => by injection hk with hk; omega).eq⟩, ?_⟩
          · show q4 ≤ _; rw [Nat.succ_mul]; omega
          · show sizeL _ ≤ _; have := HS.out; rw [sizeL_snoc, Nat.succ_mul]; omega
          · exact grown_fresh (grown_row (grown_then (grown_then HGA.out BD.out) (grown_below (below_alloc (Below.refl _ _) _))) HG.out fun q' hq => by have := HVK.out q' (mem_vblk.2 hq); omega) (by omega) _ _
          · show _ ≤ _; simp only [World.size_setCell]; exact Nat.le_trans hzD (Nat.le_trans (by simp) HG.out.size)
        case measure => omega
    · have hj' : ks.length = n0 := by omega
      have HOK := HX.out.done rfl (by unfold maxN; omega)
      have HOT : Hid (OwnT wr (vblk (.slice A2 ks.length c2) ++ fps L) (.mk k [] ks) nilS (.slice A2 ks.length c2)) := by
        have := OwnT.of (k := k) (OwnSp.nil wr 0) HOK (by rw [vblk_nil]; exact HOK.nd)
        rw [vblk_nil] at this
        exact this
      have HFK : Hid (∀ b, b ∈ vblk (.slice A2 ks.length c2) ++ fps L → wc.heap.size ≤ b) := fun b hb => HX.out.lo b hb
      have hS := HS.out
      have hQ := HQ.out
      clear HX n2 HOK ih
      go_wp2_with (first
        | (refine ev_load (o := ⟨some 37, _, _, _, _, _⟩) rfl TRx _ rfl w2.heap.size rfl [.int .i64 k, nilS, .slice A2 ks.length c2] TRx HBG.out _ Tryd.underlying36 rfl (sizeRx' _ _ _) ?_)
        | (refine ev_store (o := ⟨none, .store _ (.tmp 4) _, _, _, _, _⟩) rfl rfl TRx (.tmp 4) (.tmp 37) rfl w.heap.size 0 rfl [.int .i64 k, nilS, .slice A2 ks.length c2] rfl _ TRx HM1.out (sizeRx' _ _ _) (by show 0 + 3 ≤ 3; omega) (three_one _ _ _ _ _ _ _) ?_; intro w5 hX5 hg5; have HX5 : Hid (Blk w5 w.heap.size #[.int .i64 k, nilS, .slice A2 ks.length c2] TRx) := hX5; have HG5 := Lib.hid hg5; clear hX5 hg5))
      refine bodyPost_ret (results_cell_row rfl _ _ (w.heap.size) TRx _ (0, 0) _ rfl HX5.out.eq Tryd.underlying36 rfl (by rw [sizeRx]; rfl)) rfl ?_
      exact draw_fin (t := .mk k [] ks) rfl rfl HOT.out HFK.out (by omega) (Nat.le_refl _) HGA.out HR.out hg (by simp [Rex.size]; omega) (by omega) HG5.out

def DeepP (g d : Nat) : Prop := ∀ (p : Nat) (w : World), Rd w g p → p + NB d ≤ 700000 → Calls Tryd.prog 96 #[.pointer (some ⟨g, 0, none⟩), .int .i64 (d : Int)] w (DrawT g p (NB d) (MB d) w)
theorem sDraw_c (g : Nat) : ∀ d : Nat, d ≤ 100 → DeepP g d
  | 0, _ => fun p w h hp => sDrawLeaf_c g p _ _ _ (by simp) w h hp (NB_ge 0) (MB_ge 0)
  | 1, _ => fun p w h hp => sDrawLeaf_c g p _ _ _ (by simp) w h hp (NB_ge 1) (MB_ge 1)
  | d + 2, hd => fun p w h hp => sDrawNode_c g p (NB (d + 2)) (MB (d + 2)) (NB (d + 1)) (MB (d + 1)) (d + 2) (by omega) hd w h hp rfl rfl (NB_ge _) (MB_ge _) fun p w h hp => by
    have := sDraw_c g (d + 1) (by omega) p w h hp
    rw [show (((d + 2 : Nat) : Int) - 1) = ((d + 1 : Nat) : Int) by omega]
    exact this

end Go.Proofs.YtlchipjckgaclaaDoor
