/- Texts joined for the claims: Y4 Y5. -/
import Derived.Test.YtfeidjjabjejiaaGreatDoorG8
import Derived.Deep.RegionLaw
/- All that a chain joins, by the program. -/
namespace Go.Proofs.YtfeidjjabjejiaaGreatDoor
set_option linter.unusedSimpArgs false
set_option linter.unusedVariables false
set_option maxRecDepth 100000
open Go.RowKit

theorem lst_len {k : Int} (hk : k = 4 ∨ k = 6) {r : Rex} (h : wf r) : (lst k r).length ≤ r.many := by
  have h1 := lst_sum wt_many (k := k) r h (by omega)
  have h2 := wsum_len (f := fun r => r.many + 1) (c := 2) (fun x => by have := many_pos x; show 2 ≤ x.many + 1; omega) (lst k r)
  have h3 : wsum (fun r => r.many + 1) (lst k r) = r.many + 1 := h1
  have h4 := (lst_mem (k := k) r h (by omega)).1
  have h5 : 0 < (lst k r).length := List.length_pos_iff.2 h4
  omega
/-- what joined leaves -/
def JoinPost (base : Nat) (p : Nat → Prop) (v : Value) (rs : List Rex) (w : World) (e : Ending) (w' : World) : Prop :=
  ∃ A n c L, e = .returned (.slice A n c) ∧ n = rs.length ∧ OwnR w' base p (.slice A n c) rs L ∧ (∀ b, b ∈ vblk (.slice A n c) → b ∈ vblk v ∨ w.heap.size ≤ b) ∧ Touch (vblk v) w w'
def JoinedOk (r : Rex) : Prop := ∀ (k : Int) (u1 u2 : Value) (w : World) (base : Nat) (p : Nat → Prop) (A0 : Option Addr) (n0 c0 : Nat) (out : List Rex) (L : List KInfo), (k = 4 ∨ k = 6) → wf r → RexP w p r (.int .i64 r.kind) u1 u2 → OwnR w base p (.slice A0 n0 c0) out L → n0 = out.length → base ≤ w.heap.size →
  (∀ b, p b → b < w.heap.size ∧ b ∉ vblk (.slice A0 n0 c0)) → n0 + r.many ≤ 4194304 →
  Calls Tryz.prog 140 #[.int .i64 k, .agg #[.int .i64 r.kind, u1, u2], .slice A0 n0 c0] w (JoinPost base p (.slice A0 n0 c0) (out ++ lst k r) w)
set_option maxHeartbeats 4000000 in
theorem iJoined_c (r : Rex) : JoinedOk r := by
  refine Rex.ind (p := JoinedOk) (fun k0 s0 ks0 ih => ?_) r
  obtain ⟨a, ea⟩ : ∃ a, a = Rex.mk k0 s0 ks0 := ⟨_, rfl⟩
  have IH : Hid (∀ x ∈ a.kids, JoinedOk x) := by rw [ea]; exact ih
  rw [← ea]
  clear ih ea
  intro k u1 u2 w base p A0 n0' c0 out L hk hwf h hO hn0 hbase hp hmany
  obtain ⟨A, c, K, ck, _, rfl, rfl, _, hkk⟩ := h.parts
  obtain ⟨wa, hwa⟩ : ∃ x, x = w.alloc (.cells #[.int .i64 a.kind, .slice A a.set.length c, .slice K a.kids.length ck] TRx) := ⟨_, rfl⟩
  have hb : Below w.heap.size w wa := by rw [hwa]; exact below_alloc (Below.refl _ _) _
  have MA : Hid (Blk wa w.heap.size #[.int .i64 a.kind, .slice A a.set.length c, .slice K a.kids.length ck] TRx) := by rw [hwa]; exact blk_new w _ _
  have hz : wa.heap.size = w.heap.size + 1 := by rw [hwa]; simp
  replace hwa := hwa.symm
  have HZ := Lib.hid hz
  have HA := Lib.hid (h.under hb)
  have HO := Lib.hid (hO.under hb)
  have HP := Lib.hid hp
  have BW := Lib.hid hb
  have HN := Lib.hid hn0
  have HWF := Lib.hid hwf
  have n0 : wa.cell? ⟨w.heap.size, 0, none⟩ = some (.int .i64 a.kind) := by rw [MA.out.cell]; rfl
  have n1 : wa.cell? ⟨w.heap.size, 1, none⟩ = some (.slice A a.set.length c) := by rw [MA.out.cell]; rfl
  have n2 : wa.cell? ⟨w.heap.size, 2, none⟩ = some (.slice K a.kids.length ck) := by rw [MA.out.cell]; rfl
  have hmp := many_pos a
  by_cases hak : a.kind = k
  · obtain ⟨x, y, ex, wx, wy⟩ := wf_kids2 hwf (by omega)
    have ekids : a.kids = [x, y] := by rw [ex]; rfl
    have E : Hid (lst k a = lst k x ++ lst k y) := by show _ = _; rw [ex, hak, lst_two]
    have hm2 : a.many = x.many + y.many + 1 := by rw [ex]; exact two_many _ x y
    have hlx := lst_len hk wx
    rw [ekids] at hkk
    obtain ⟨ad, A1, c1, K1, dk1, A2, c2, K2, dk2, rfl, hx, x0, x1, x2, hy, y0, y1, y2⟩ := hkk.two
    have hadp : p ad.block := hkk.ok ad rfl (by simp)
    have hadl := hp _ hadp
    have IHX : Hid (JoinedOk x) := IH.out x (by rw [ekids]; simp)
    have IHY : Hid (JoinedOk y) := IH.out y (by rw [ekids]; simp)
    have d4 : (a.kind == k) = true := by simp [hak]
    have WX := Lib.hid wx
    have WY := Lib.hid wy
    have HX := Lib.hid (hx.under hb)
    have HY := Lib.hid (hy.under hb)
    have HVS : Hid (∀ b, b ∈ vblk (.slice A0 n0' c0) → b < w.heap.size) := fun b hv => (own_vlt hO.own b hv).2
    have HC : Hid (∀ w' : World, (∀ q, q < wa.heap.size → q ∉ vblk (.slice A0 n0' c0) → w'.heap[q]? = wa.heap[q]?) → w'.cell? ⟨w.heap.size, 2, none⟩ = some (.slice (some ad) 2 ck) ∧ w'.cell? ad = some (.int .i64 x.kind) ∧ w'.cell? ⟨ad.block, ad.off + 1, none⟩ = some (.slice A1 x.set.length c1) ∧ w'.cell? ⟨ad.block, ad.off + 2, none⟩ = some (.slice K1 x.kids.length dk1) ∧
        w'.cell? ⟨ad.block, ad.off + 3, none⟩ = some (.int .i64 y.kind) ∧ w'.cell? ⟨ad.block, ad.off + 3 + 1, none⟩ = some (.slice A2 y.set.length c2) ∧ w'.cell? ⟨ad.block, ad.off + 3 + 2, none⟩ = some (.slice K2 y.kids.length dk2)) := fun w' hkp => by
      have up : ∀ {q : Addr} {u : Value}, q.block ∉ vblk (.slice A0 n0' c0) → wa.cell? q = some u → w'.cell? q = some u := fun {q u} hne h => (World.cell?_of_block (w := wa) (hkp _ (World.block_lt_of_cell? wa q h) hne)).trans h
      have down : ∀ {q : Addr} {u : Value}, w.cell? q = some u → wa.cell? q = some u := fun {q u} h => (hb.cell (World.block_lt_of_cell? w q h)).trans h
      have n2' : wa.cell? ⟨w.heap.size, 2, none⟩ = some (.slice (some ad) 2 ck) := by rw [n2, ekids]; rfl
      exact ⟨up (fun hv => by have := HVS.out _ hv; have e : w.heap.size < w.heap.size := this; omega) n2', up hadl.2 (down x0), up hadl.2 (down x1), up hadl.2 (down x2), up hadl.2 (down y0), up hadl.2 (down y1), up hadl.2 (down y2)⟩
    rw [ekids] at n2 hwa
    rw [ekids]
    simp only [List.length_cons, List.length_nil, Nat.zero_add] at n2 hwa ⊢
    have HE := Lib.hid hm2
    clear ex ekids hkk hx hy x0 x1 x2 y0 y1 y2 wx wy IH HWF hak hb h hO hn0 hm2 hz MA hadl hwf hp
    go_enter Tryz.func140, Tryz.ntmps140
    go_wp2_with fail
    clear hwa n0 n1 n2
    refine wp_region_held_drew (S := fun w' => w'.cell? ⟨w.heap.size, 2, none⟩ = some (.slice (some ad) 2 ck) ∧ w'.cell? ad = some (.int .i64 x.kind) ∧ w'.cell? ⟨ad.block, ad.off + 1, none⟩ = some (.slice A1 x.set.length c1) ∧ w'.cell? ⟨ad.block, ad.off + 2, none⟩ = some (.slice K1 x.kids.length dk1) ∧
        w'.cell? ⟨ad.block, ad.off + 3, none⟩ = some (.int .i64 y.kind) ∧ w'.cell? ⟨ad.block, ad.off + 3 + 1, none⟩ = some (.slice A2 y.set.length c2) ∧ w'.cell? ⟨ad.block, ad.off + 3 + 2, none⟩ = some (.slice K2 y.kids.length dk2)) (by kernel_rfl) (HC.out _ fun q hq _ => (below_drew (Below.refl wa.heap.size wa)).block q hq) (fun hHeld0 => ?_)
    refine wpAnyH_take (i := 0) (v := ?_) rfl (by kernel_rfl) (by kernel_rfl) (by kernel_rfl) (fun _ _ _ h => h) (Or.inl ⟨by rfl, ?_⟩) (by assumption) ?_
    rotate_left
    · (intro w hSw; (try dsimp only at hSw); go_simp; try with_reducible rfl)
    try simp only [Act.put, List.getElem_toArray, List.getElem_cons_zero, List.getElem_cons_succ, List.setIfInBounds_toArray, List.set_cons_zero, List.set_cons_succ]
    refine wpAnyH_take (i := 1) (v := ?_) rfl (by kernel_rfl) (by kernel_rfl) (by kernel_rfl) (fun _ _ _ h => h) (Or.inl ⟨by rfl, ?_⟩) (by assumption) ?_
    rotate_left
    · (intro w hSw; (try dsimp only at hSw); go_simp; try with_reducible rfl)
    try simp only [Act.put, List.getElem_toArray, List.getElem_cons_zero, List.getElem_cons_succ, List.setIfInBounds_toArray, List.set_cons_zero, List.set_cons_succ]
    refine wpAnyH_take (i := 2) (v := ?_) rfl (by kernel_rfl) (by kernel_rfl) (by kernel_rfl) (fun _ _ _ h => h) (Or.inl ⟨by rfl, ?_⟩) (by assumption) ?_
    rotate_left
    · (intro w hSw; (try dsimp only at hSw); go_simp; try with_reducible rfl)
    try simp only [Act.put, List.getElem_toArray, List.getElem_cons_zero, List.getElem_cons_succ, List.setIfInBounds_toArray, List.set_cons_zero, List.set_cons_succ]
    refine wpAnyH_take (i := 3) (v := ?_) rfl (by kernel_rfl) (by kernel_rfl) (by kernel_rfl) (fun _ _ _ h => h) (Or.inl ⟨by rfl, ?_⟩) (by assumption) ?_
    rotate_left
    · (intro w hSw; (try dsimp only at hSw); go_simp; try with_reducible rfl)
    try simp only [Act.put, List.getElem_toArray, List.getElem_cons_zero, List.getElem_cons_succ, List.setIfInBounds_toArray, List.set_cons_zero, List.set_cons_succ]
    refine wpAnyH_take (i := 4) (v := ?_) rfl (by kernel_rfl) (by kernel_rfl) (by kernel_rfl) (fun _ _ _ h => h) (Or.inl ⟨by rfl, ?_⟩) (by assumption) ?_
    rotate_left
    · (intro w hSw; (try dsimp only at hSw); go_simp; try with_reducible rfl)
    try simp only [Act.put, List.getElem_toArray, List.getElem_cons_zero, List.getElem_cons_succ, List.setIfInBounds_toArray, List.set_cons_zero, List.set_cons_succ]
    refine wpAnyH_take (i := 5) (v := ?_) rfl (by kernel_rfl) (by kernel_rfl) (by kernel_rfl) (fun _ _ _ h => h) (Or.inl ⟨by rfl, ?_⟩) (by assumption) ?_
    rotate_left
    · (intro w hSw; (try dsimp only at hSw); go_simp; try with_reducible rfl)
    try simp only [Act.put, List.getElem_toArray, List.getElem_cons_zero, List.getElem_cons_succ, List.setIfInBounds_toArray, List.set_cons_zero, List.set_cons_succ]
    refine wpAnyH_take (i := 6) (v := ?_) rfl (by kernel_rfl) (by kernel_rfl) (by kernel_rfl) (fun _ _ _ h => h) (Or.inl ⟨by rfl, ?_⟩) (by assumption) ?_
    rotate_left
    · (intro w hSw; (try dsimp only at hSw); go_simp; try with_reducible rfl)
    try simp only [Act.put, List.getElem_toArray, List.getElem_cons_zero, List.getElem_cons_succ, List.setIfInBounds_toArray, List.set_cons_zero, List.set_cons_succ]
    refine wpAnyH_take (i := 7) (v := ?_) rfl (by kernel_rfl) (by kernel_rfl) (by kernel_rfl) (fun _ _ _ h => h) (Or.inl ⟨by rfl, ?_⟩) (by assumption) ?_
    rotate_left
    · (intro w hSw; (try dsimp only at hSw); go_simp; try with_reducible rfl)
    try simp only [Act.put, List.getElem_toArray, List.getElem_cons_zero, List.getElem_cons_succ, List.setIfInBounds_toArray, List.set_cons_zero, List.set_cons_succ]
    refine wpAnyH_take (i := 8) (v := ?_) rfl (by kernel_rfl) (by kernel_rfl) (by kernel_rfl) (fun _ _ _ h => h) (Or.inl ⟨by rfl, ?_⟩) (by assumption) ?_
    rotate_left
    · (intro w hSw; (try dsimp only at hSw); go_simp; try with_reducible rfl)
    try simp only [Act.put, List.getElem_toArray, List.getElem_cons_zero, List.getElem_cons_succ, List.setIfInBounds_toArray, List.set_cons_zero, List.set_cons_succ]
    refine wpAnyH_take (i := 9) (v := ?_) rfl (by kernel_rfl) (by kernel_rfl) (by kernel_rfl) (fun _ _ _ h => h) (Or.inl ⟨by rfl, ?_⟩) (by assumption) ?_
    rotate_left
    · (intro w hSw; (try dsimp only at hSw); go_simp; try with_reducible rfl)
    try simp only [Act.put, List.getElem_toArray, List.getElem_cons_zero, List.getElem_cons_succ, List.setIfInBounds_toArray, List.set_cons_zero, List.set_cons_succ]
    refine wpAnyH_take (i := 10) (v := ?_) rfl (by kernel_rfl) (by kernel_rfl) (by kernel_rfl) (fun _ _ _ h => h) (Or.inl ⟨by rfl, ?_⟩) (by assumption) ?_
    rotate_left
    · (intro w hSw; (try dsimp only at hSw); go_simp; try with_reducible rfl)
    try simp only [Act.put, List.getElem_toArray, List.getElem_cons_zero, List.getElem_cons_succ, List.setIfInBounds_toArray, List.set_cons_zero, List.set_cons_succ]
    refine wpAnyH_ready (rs := [11]) (by kernel_rfl) (by simp) ?_
    refine AllReadyH.cons (o := ⟨some 26, _, _, _, _, _⟩) rfl (fun K hK => ?_) AllReadyH.nil
    go_simp
    have hdz := (below_drew (Below.refl wa.heap.size wa)).size
    have hwz := BW.out.size
    refine (IHX.out k _ _ wa.drew base p A0 n0' c0 out L hk WX.out (HX.out.under (below_drew (Below.refl _ _))) (HO.out.under (below_drew (Below.refl _ _))) HN.out (by omega) (fun z hz => ⟨by have := (HP.out z hz).1; omega, (HP.out z hz).2⟩) (by have := HE.out; omega)).mono ?_
    rintro e w3 ⟨A3, n3, c3, L3, rfl, hn3, ho3, hv3, ht3⟩
    have T3 := Lib.hid (Touch.trans (Touch.of_below (fp := vblk (.slice A0 n0' c0)) (below_drew (Below.refl wa.heap.size wa))) ht3)
    have O3 := Lib.hid ho3
    have N3 := Lib.hid hn3
    have V3 : Hid (∀ b, b ∈ vblk (.slice A3 n3 c3) → b ∈ vblk (.slice A0 n0' c0) ∨ w.heap.size < b) := fun b hb => (hv3 b hb).imp id fun h => by have := HZ.out; omega
    clear hn3 ho3 hv3 ht3
    (try go_wp2_with fail)
    refine hK.out _ _ (HC.out w3 (fun q hq hn => T3.out.block q hq hn)) (fun hHeld1 => ?_)
    clear hK K hHeld0
    try simp only [Act.put, List.getElem_toArray, List.getElem_cons_zero, List.getElem_cons_succ, List.setIfInBounds_toArray, List.set_cons_zero, List.set_cons_succ]
    refine wpAnyH_ready (rs := [12]) (by kernel_rfl) (by simp) ?_
    refine AllReadyH.cons (o := ⟨some 27, _, _, _, _, _⟩) rfl (fun K hK => ?_) AllReadyH.nil
    go_simp
    have h3z := T3.out.size
    refine (IHY.out k _ _ w3 base p A3 n3 c3 (out ++ lst k x) L3 hk WY.out (HY.out.keep fun z hz hl => T3.out.block z hl (HP.out z hz).2) O3.out N3.out (by omega) (fun z hz => ⟨by have := (HP.out z hz).1; omega, fun hv => by have h1 := HP.out z hz; rcases V3.out z hv with h2 | h2; exact h1.2 h2; omega⟩) (by have := HE.out; have := N3.out; rw [List.length_append] at this; have := HN.out; omega)).mono ?_
    rintro e w4 ⟨A4, n4, c4, L4, rfl, hn4, ho4, hv4, ht4⟩
    have T4 : Hid (Touch (vblk (.slice A0 n0' c0)) w w4) := ⟨ht4.os.trans (T3.out.os.trans BW.out.os), ht4.tape.trans (T3.out.tape.trans BW.out.tape), ht4.output.trans (T3.out.output.trans BW.out.output), Nat.le_trans hwz (Nat.le_trans h3z ht4.size), fun q hq hn => by
      rw [ht4.block q (by omega) fun hv => (by rcases V3.out q hv with h2 | h2; exact hn h2; omega), T3.out.block q (by omega) hn, BW.out.block q hq]⟩
    have F4 : Hid (JoinPost base p (.slice A0 n0' c0) (out ++ lst k a) w (.returned (.slice A4 n4 c4)) w4) := by
      refine ⟨A4, n4, c4, L4, rfl, by rw [hn4, E.out, List.append_assoc], by rw [E.out, ← List.append_assoc]; exact ho4, fun b hb => ?_, T4.out⟩
      rcases hv4 b hb with h | h
      · rcases V3.out b h with h | h
        · exact .inl h
        · exact .inr (by omega)
      · exact .inr (by omega)
    have T34 : Hid (∀ q, q < wa.heap.size → q ∉ vblk (.slice A0 n0' c0) → w4.heap[q]? = wa.heap[q]?) := fun q hq hn => by
      rw [ht4.block q (by omega) fun hv => (by rcases V3.out q hv with h2 | h2; exact hn h2; have := HZ.out; omega), T3.out.block q hq hn]
    clear hn4 ho4 hv4 ht4 T4
    (try go_wp2_with fail)
    refine hK.out _ _ (HC.out w4 T34.out) (fun hHeld2 => ?_)
    clear hK K hHeld1
    try simp only [Act.put, List.getElem_toArray, List.getElem_cons_zero, List.getElem_cons_succ, List.setIfInBounds_toArray, List.set_cons_zero, List.set_cons_succ]
    refine wpAnyH_take (i := 13) (v := ?_) rfl (by kernel_rfl) (by kernel_rfl) (by kernel_rfl) (fun _ _ _ h => h) (Or.inl ⟨by rfl, ?_⟩) (by assumption) ?_
    rotate_left
    · (intro w hSw; (try dsimp only at hSw); go_simp; try with_reducible rfl)
    try simp only [Act.put, List.getElem_toArray, List.getElem_cons_zero, List.getElem_cons_succ, List.setIfInBounds_toArray, List.set_cons_zero, List.set_cons_succ]
    refine wpAnyH_done (by kernel_rfl) ?_ _
    clear hHeld2 HC
    go_wp2_with fail
    go_ret
    exact F4.out
  · have E : Hid (lst k a = [a]) := lst_no hak
    have d4 : (a.kind == k) = false := by simp [hak]
    obtain ⟨i1, hi, hz0, hz1', hz2⟩ := info_parts infoRx
    have hn1 : n0' + 1 ≤ maxLen := by unfold maxLen; omega
    have hlt : w.heap.size < wa.heap.size := by have := HZ.out; omega
    have HOW : Hid (wa.ownsRow base TRx 3 (.slice A0 n0' c0) n0' (kcells out L)) := by have := HO.out.own; rw [← HN.out] at this; exact this
    clear hak hkk hb h hO hz IH HWF hwf hn0
    go_enter Tryz.func140, Tryz.ntmps140
    go_wp2_with (at_builtin; refine wpList_append_row (by rfl) (.tmp 11) (.tmp 13) 24 (by rfl) base TRx i1 (.agg #[.int .i64 0, nilS, nilS]) 3 56 Tryz.underlying24 hi hz0 hz1' hz2 rfl (by decide) (.slice A0 n0' c0) n0' (kcells out L) (by rfl) (own_below HOW.out (below_alloc (Below.refl _ _) _)) (some ⟨wa.heap.size, 0, none⟩) 1 1 [.int .i64 a.kind, .slice A a.set.length c, .slice K a.kids.length ck] (by rfl) (.inr ⟨⟨wa.heap.size, 0, none⟩, rfl, Nat.zero_le _, new_cells wa [.int .i64 a.kind, .slice A a.set.length c, .slice K a.kids.length ck] TRx⟩) rfl (three_one _ _ _ _ _ _ _) hn1 (by omega) (by simp; omega) _ rfl (n0' + 1) rfl ?_; intro A5 c5 w5 hown hgrow hat; have HE := Lib.hid hown; have HG := Lib.hid hgrow; have HAT := Lib.hid hat; clear hown hgrow hat)
    go_ret
    have hba := below_alloc (Below.refl wa.heap.size wa) (.cells #[.int .i64 a.kind, .slice A a.set.length c, .slice K a.kids.length ck] TRx)
    have hsz : (wa.alloc (.cells #[.int .i64 a.kind, .slice A a.set.length c, .slice K a.kids.length ck] TRx)).heap.size = wa.heap.size + 1 := by simp
    refine ⟨A5, n0' + 1, c5, L ++ [⟨[], .slice A a.set.length c, .slice K a.kids.length ck⟩], rfl, by rw [E.out, HN.out]; simp, ?_, fun b hb => ?_, ?_⟩
    · rw [E.out]
      have hh := HO.out.snoc (w1 := wa.alloc (.cells #[.int .i64 a.kind, .slice A a.set.length c, .slice K a.kids.length ck] TRx)) (w' := w5) (v' := .slice A5 (n0' + 1) c5) (HA.out.mono fun b hb => ⟨hb, (HP.out b hb).2⟩) hba (by rw [← HN.out]; exact HE.out) HG.out (fun b hb => HAT.out b hb) (by rw [← HN.out]; unfold maxN; omega) []
      exact hh
    · rcases HAT.out b hb with h | h
      · exact .inl h
      · right; rw [h]; simp; omega
    · exact ⟨HG.out.os.trans (hba.os.trans BW.out.os), HG.out.tape.trans (hba.tape.trans BW.out.tape), HG.out.output.trans (hba.output.trans BW.out.output), Nat.le_trans BW.out.size (Nat.le_trans hba.size HG.out.size), fun q hq hn => by
        rw [HG.out.block q (Nat.lt_of_lt_of_le hq (Nat.le_trans BW.out.size hba.size)) fun e => hn (mem_vblk.2 e.symm), hba.block q (Nat.lt_of_lt_of_le hq BW.out.size), BW.out.block q hq]⟩

end Go.Proofs.YtfeidjjabjejiaaGreatDoor

/- All that a chain joins, by the reference. -/
namespace Go.Proofs.YtfeidjjabjejiaaGreatDoor
set_option linter.unusedSimpArgs false
set_option linter.unusedVariables false
set_option maxRecDepth 100000
open Go.RowKit

theorem kcells_app : ∀ (rs : List Rex) (L : List KInfo) (ss : List Rex) (M : List KInfo), rs.length = L.length → kcells (rs ++ ss) (L ++ M) = kcells rs L ++ kcells ss M
  | [], [], ss, M, _ => rfl
  | r :: rs, x :: L, ss, M, h => by
    rw [List.cons_append, List.cons_append, kcells, kcells, kcells_app rs L ss M (by simpa using h), List.append_assoc]
theorem OwnR.mk' {w : World} {base : Nat} {p : Nat → Prop} {v : Value} {rs : List Rex} {L : List KInfo} (own : w.ownsRow base TRx 3 v rs.length (kcells rs L)) (len : L.length = rs.length) (le : rs.length ≤ maxN) (hp : ∀ b, p b → b < base)
    (hr : ∀ (i : Nat) (r : Rex) (x : KInfo), rs[i]? = some r → L[i]? = some x → RexP w p r (.int .i64 r.kind) x.v1 x.v2) : OwnR w base p v rs L :=
  ⟨own, len, le, fun i r x a b => (hr i r x a b).mono fun b hb => ⟨hb, fun hv => by have := (own_vlt own b hv).1; have := hp b hb; omega⟩⟩
theorem OwnR.reads {w : World} {base : Nat} {p : Nat → Prop} {v : Value} {rs : List Rex} {L : List KInfo} (h : OwnR w base p v rs L) (i : Nat) (r : Rex) (x : KInfo) (a : rs[i]? = some r) (b : L[i]? = some x) : RexP w p r (.int .i64 r.kind) x.v1 x.v2 := (h.hr i r x a b).mono fun b hb => hb.1
/-- two rows, one behind the other -/
theorem OwnR.app {w w' : World} {base base2 : Nat} {p : Nat → Prop} {v v2 v' : Value} {rs ss : List Rex} {L M : List KInfo} (h : OwnR w base p v rs L) (h2 : OwnR w base2 p v2 ss M) (hp : ∀ b, p b → b < base) (he : w'.ownsRow base TRx 3 v' (rs.length + ss.length) (kcells rs L ++ kcells ss M))
    (hk : ∀ b, p b → b < w.heap.size → w'.heap[b]? = w.heap[b]?) (hn : rs.length + ss.length ≤ maxN) : OwnR w' base p v' (rs ++ ss) (L ++ M) := by
  refine OwnR.mk' (by rw [List.length_append, kcells_app _ _ _ _ h.len.symm]; exact he) (by rw [List.length_append, List.length_append, h.len, h2.len]) (by rw [List.length_append]; exact hn) hp fun i r x a b => ?_
  have hl := h.len
  by_cases e : i < rs.length
  · rw [List.getElem?_append_left e] at a
    rw [List.getElem?_append_left (by omega)] at b
    exact (h.reads i r x a b).keep hk
  · rw [List.getElem?_append_right (by omega)] at a
    rw [List.getElem?_append_right (by omega), hl] at b
    exact (h2.reads _ r x a b).keep hk
theorem kcells_one : ∀ (rs : List Rex) (L : List KInfo), (∀ (i : Nat) (r : Rex) (x : KInfo), rs[i]? = some r → L[i]? = some x → x.v1.oneCell' = true ∧ x.v2.oneCell' = true) → ∀ u ∈ kcells rs L, u.oneCell' = true
  | [], L, _, u, hu => by simp [kcells] at hu
  | r :: rs, [], _, u, hu => by simp [kcells] at hu
  | r :: rs, x :: L, h, u, hu => by
    rw [kcells, kcell] at hu
    rcases List.mem_append.1 hu with hu | hu
    · have h0 := h 0 r x rfl rfl
      simp at hu
      rcases hu with rfl | rfl | rfl
      · rfl
      · exact h0.1
      · exact h0.2
    · exact kcells_one rs L (fun i r' x' a b => h (i + 1) r' x' (by simpa using a) (by simpa using b)) u hu
theorem OwnR.ones {w : World} {base : Nat} {p : Nat → Prop} {v : Value} {rs : List Rex} {L : List KInfo} (h : OwnR w base p v rs L) : ∀ u ∈ kcells rs L, u.oneCell' = true :=
  kcells_one rs L fun i r x a b => by
    obtain ⟨_, _, _, _, _, e1, e2, _⟩ := (h.hr i r x a b).parts
    rw [e1, e2]
    exact ⟨rfl, rfl⟩
theorem OwnR.rowOf {w : World} {base : Nat} {p : Nat → Prop} {A : Option Addr} {n c : Nat} {rs : List Rex} {L : List KInfo} (h : OwnR w base p (.slice A n c) rs L) : Row w base A (kcells rs L) := by
  obtain ⟨A', c', e, _, hr⟩ := own_row h.own
  injection e with e1 e2 e3
  subst e1
  exact hr
/-- a row of one, just made -/
theorem OwnR.one {w : World} {base g : Nat} {p : Nat → Prop} {r : Rex} {v1 v2 : Value} (hb : Blk w g #[.int .i64 r.kind, v1, v2] TRx) (hg : base ≤ g) (hp : ∀ b, p b → b < base) (h : RexP w p r (.int .i64 r.kind) v1 v2) : OwnR w base p (.slice (some ⟨g, 0, none⟩) 1 1) [r] [⟨[], v1, v2⟩] := by
  refine OwnR.mk' (own_of_blk (cs := [.int .i64 r.kind, v1, v2]) (n := 1) hb rfl hg (by decide)) rfl (by simp [maxN]) hp fun i r' x a b => ?_
  obtain rfl : i = 0 := by have := (List.getElem?_eq_some_iff.1 a).1; simpa using this
  simp at a b
  subst a b
  exact h
def ListPost (base : Nat) (p : Nat → Prop) (rs : List Rex) (w : World) (e : Ending) (w' : World) : Prop :=
  ∃ A n c L, e = .returned (.slice A n c) ∧ n = rs.length ∧ OwnR w' base p (.slice A n c) rs L ∧ Below w.heap.size w w'
def ListOk (r : Rex) : Prop := ∀ (k : Int) (u1 u2 : Value) (w : World) (p : Nat → Prop), (k = 4 ∨ k = 6) → wf r → RexP w p r (.int .i64 r.kind) u1 u2 → (∀ b, p b → b < w.heap.size) → r.many ≤ 4194304 →
  Calls Tryz.prog 156 #[.agg #[.int .i64 r.kind, u1, u2], .int .i64 k] w (ListPost w.heap.size p (lst k r) w)
set_option maxHeartbeats 4000000 in
theorem sList_c (r : Rex) : ListOk r := by
  refine Rex.ind (p := ListOk) (fun k0 s0 ks0 ih => ?_) r
  obtain ⟨a, ea⟩ : ∃ a, a = Rex.mk k0 s0 ks0 := ⟨_, rfl⟩
  have IH : Hid (∀ x ∈ a.kids, ListOk x) := by rw [ea]; exact ih
  rw [← ea]
  clear ih ea
  intro k u1 u2 w p hk hwf h hp hmany
  obtain ⟨A, c, K, ck, _, rfl, rfl, _, hkk⟩ := h.parts
  obtain ⟨wa, hwa⟩ : ∃ x, x = w.alloc (.cells #[.int .i64 a.kind, .slice A a.set.length c, .slice K a.kids.length ck] TRx) := ⟨_, rfl⟩
  have hb : Below w.heap.size w wa := by rw [hwa]; exact below_alloc (Below.refl _ _) _
  have MA : Hid (Blk wa w.heap.size #[.int .i64 a.kind, .slice A a.set.length c, .slice K a.kids.length ck] TRx) := by rw [hwa]; exact blk_new w _ _
  replace hwa := hwa.symm
  have HA := Lib.hid (h.under hb)
  have HP := Lib.hid hp
  have BW := Lib.hid hb
  have n0 : wa.cell? ⟨w.heap.size, 0, none⟩ = some (.int .i64 a.kind) := by rw [MA.out.cell]; rfl
  have n1 : wa.cell? ⟨w.heap.size, 1, none⟩ = some (.slice A a.set.length c) := by rw [MA.out.cell]; rfl
  have n2 : wa.cell? ⟨w.heap.size, 2, none⟩ = some (.slice K a.kids.length ck) := by rw [MA.out.cell]; rfl
  have hmp := many_pos a
  by_cases hak : a.kind = k
  · obtain ⟨x, y, ex, wx, wy⟩ := wf_kids2 hwf (by omega)
    have ekids : a.kids = [x, y] := by rw [ex]; rfl
    have E : Hid (lst k a = lst k x ++ lst k y) := by show _ = _; rw [ex, hak, lst_two]
    have hm2 : a.many = x.many + y.many + 1 := by rw [ex]; exact two_many _ x y
    have hlx := lst_len hk wx
    have hly := lst_len hk wy
    rw [ekids] at hkk
    obtain ⟨ad, A1, c1, K1, dk1, A2, c2, K2, dk2, rfl, hx, x0, x1, x2, hy, y0, y1, y2⟩ := hkk.two
    have IHX : Hid (ListOk x) := IH.out x (by rw [ekids]; simp)
    have IHY : Hid (ListOk y) := IH.out y (by rw [ekids]; simp)
    have d4 : (a.kind == k) = true := by simp [hak]
    have WX := Lib.hid wx
    have WY := Lib.hid wy
    have HX := Lib.hid (hx.under hb)
    have HY := Lib.hid (hy.under hb)
    have HC : Hid (∀ w' : World, Below wa.heap.size wa w' → w'.cell? ⟨w.heap.size, 2, none⟩ = some (.slice (some ad) 2 ck) ∧ w'.cell? ad = some (.int .i64 x.kind) ∧ w'.cell? ⟨ad.block, ad.off + 1, none⟩ = some (.slice A1 x.set.length c1) ∧ w'.cell? ⟨ad.block, ad.off + 2, none⟩ = some (.slice K1 x.kids.length dk1) ∧
        w'.cell? ⟨ad.block, ad.off + 3, none⟩ = some (.int .i64 y.kind) ∧ w'.cell? ⟨ad.block, ad.off + 3 + 1, none⟩ = some (.slice A2 y.set.length c2) ∧ w'.cell? ⟨ad.block, ad.off + 3 + 2, none⟩ = some (.slice K2 y.kids.length dk2)) := fun w' hkp => by
      have up : ∀ {q : Addr} {u : Value}, wa.cell? q = some u → w'.cell? q = some u := fun {q u} h => (hkp.cell (World.block_lt_of_cell? wa q h)).trans h
      have down : ∀ {q : Addr} {u : Value}, w.cell? q = some u → wa.cell? q = some u := fun {q u} h => (hb.cell (World.block_lt_of_cell? w q h)).trans h
      have n2' : wa.cell? ⟨w.heap.size, 2, none⟩ = some (.slice (some ad) 2 ck) := by rw [n2, ekids]; rfl
      exact ⟨up n2', up (down x0), up (down x1), up (down x2), up (down y0), up (down y1), up (down y2)⟩
    rw [ekids] at n2 hwa
    rw [ekids]
    simp only [List.length_cons, List.length_nil, Nat.zero_add] at n2 hwa ⊢
    obtain ⟨i1, hi, hz0, hza, hz2⟩ := info_parts infoRx
    have HE := Lib.hid hm2
    clear ex ekids hkk hx hy x0 x1 x2 y0 y1 y2 wx wy IH hak hb h hm2 MA hwf hp
    go_enter Tryz.func156, Tryz.ntmps156
    go_wp2_with fail
    clear hwa n0 n1 n2
    refine wp_region_held_drew (S := fun w' => w'.cell? ⟨w.heap.size, 2, none⟩ = some (.slice (some ad) 2 ck) ∧ w'.cell? ad = some (.int .i64 x.kind) ∧ w'.cell? ⟨ad.block, ad.off + 1, none⟩ = some (.slice A1 x.set.length c1) ∧ w'.cell? ⟨ad.block, ad.off + 2, none⟩ = some (.slice K1 x.kids.length dk1) ∧
        w'.cell? ⟨ad.block, ad.off + 3, none⟩ = some (.int .i64 y.kind) ∧ w'.cell? ⟨ad.block, ad.off + 3 + 1, none⟩ = some (.slice A2 y.set.length c2) ∧ w'.cell? ⟨ad.block, ad.off + 3 + 2, none⟩ = some (.slice K2 y.kids.length dk2)) (by kernel_rfl) (HC.out _ (below_drew (Below.refl _ _))) (fun hHeld0 => ?_)
    refine wpAnyH_take (i := 0) (v := ?_) rfl (by kernel_rfl) (by kernel_rfl) (by kernel_rfl) (fun _ _ _ h => h) (Or.inl ⟨by rfl, ?_⟩) (by assumption) ?_
    rotate_left
    · (intro w hSw; (try dsimp only at hSw); go_simp; try with_reducible rfl)
    try simp only [Act.put, List.getElem_toArray, List.getElem_cons_zero, List.getElem_cons_succ, List.setIfInBounds_toArray, List.set_cons_zero, List.set_cons_succ]
    refine wpAnyH_take (i := 1) (v := ?_) rfl (by kernel_rfl) (by kernel_rfl) (by kernel_rfl) (fun _ _ _ h => h) (Or.inl ⟨by rfl, ?_⟩) (by assumption) ?_
    rotate_left
    · (intro w hSw; (try dsimp only at hSw); go_simp; try with_reducible rfl)
    try simp only [Act.put, List.getElem_toArray, List.getElem_cons_zero, List.getElem_cons_succ, List.setIfInBounds_toArray, List.set_cons_zero, List.set_cons_succ]
    refine wpAnyH_take (i := 2) (v := ?_) rfl (by kernel_rfl) (by kernel_rfl) (by kernel_rfl) (fun _ _ _ h => h) (Or.inl ⟨by rfl, ?_⟩) (by assumption) ?_
    rotate_left
    · (intro w hSw; (try dsimp only at hSw); go_simp; try with_reducible rfl)
    try simp only [Act.put, List.getElem_toArray, List.getElem_cons_zero, List.getElem_cons_succ, List.setIfInBounds_toArray, List.set_cons_zero, List.set_cons_succ]
    refine wpAnyH_take (i := 3) (v := ?_) rfl (by kernel_rfl) (by kernel_rfl) (by kernel_rfl) (fun _ _ _ h => h) (Or.inl ⟨by rfl, ?_⟩) (by assumption) ?_
    rotate_left
    · (intro w hSw; (try dsimp only at hSw); go_simp; try with_reducible rfl)
    try simp only [Act.put, List.getElem_toArray, List.getElem_cons_zero, List.getElem_cons_succ, List.setIfInBounds_toArray, List.set_cons_zero, List.set_cons_succ]
    refine wpAnyH_take (i := 4) (v := ?_) rfl (by kernel_rfl) (by kernel_rfl) (by kernel_rfl) (fun _ _ _ h => h) (Or.inl ⟨by rfl, ?_⟩) (by assumption) ?_
    rotate_left
    · (intro w hSw; (try dsimp only at hSw); go_simp; try with_reducible rfl)
    try simp only [Act.put, List.getElem_toArray, List.getElem_cons_zero, List.getElem_cons_succ, List.setIfInBounds_toArray, List.set_cons_zero, List.set_cons_succ]
    refine wpAnyH_take (i := 6) (v := ?_) rfl (by kernel_rfl) (by kernel_rfl) (by kernel_rfl) (fun _ _ _ h => h) (Or.inl ⟨by rfl, ?_⟩) (by assumption) ?_
    rotate_left
    · (intro w hSw; (try dsimp only at hSw); go_simp; try with_reducible rfl)
    try simp only [Act.put, List.getElem_toArray, List.getElem_cons_zero, List.getElem_cons_succ, List.setIfInBounds_toArray, List.set_cons_zero, List.set_cons_succ]
    refine wpAnyH_take (i := 7) (v := ?_) rfl (by kernel_rfl) (by kernel_rfl) (by kernel_rfl) (fun _ _ _ h => h) (Or.inl ⟨by rfl, ?_⟩) (by assumption) ?_
    rotate_left
    · (intro w hSw; (try dsimp only at hSw); go_simp; try with_reducible rfl)
    try simp only [Act.put, List.getElem_toArray, List.getElem_cons_zero, List.getElem_cons_succ, List.setIfInBounds_toArray, List.set_cons_zero, List.set_cons_succ]
    refine wpAnyH_take (i := 8) (v := ?_) rfl (by kernel_rfl) (by kernel_rfl) (by kernel_rfl) (fun _ _ _ h => h) (Or.inl ⟨by rfl, ?_⟩) (by assumption) ?_
    rotate_left
    · (intro w hSw; (try dsimp only at hSw); go_simp; try with_reducible rfl)
    try simp only [Act.put, List.getElem_toArray, List.getElem_cons_zero, List.getElem_cons_succ, List.setIfInBounds_toArray, List.set_cons_zero, List.set_cons_succ]
    refine wpAnyH_take (i := 9) (v := ?_) rfl (by kernel_rfl) (by kernel_rfl) (by kernel_rfl) (fun _ _ _ h => h) (Or.inl ⟨by rfl, ?_⟩) (by assumption) ?_
    rotate_left
    · (intro w hSw; (try dsimp only at hSw); go_simp; try with_reducible rfl)
    try simp only [Act.put, List.getElem_toArray, List.getElem_cons_zero, List.getElem_cons_succ, List.setIfInBounds_toArray, List.set_cons_zero, List.set_cons_succ]
    refine wpAnyH_take (i := 10) (v := ?_) rfl (by kernel_rfl) (by kernel_rfl) (by kernel_rfl) (fun _ _ _ h => h) (Or.inl ⟨by rfl, ?_⟩) (by assumption) ?_
    rotate_left
    · (intro w hSw; (try dsimp only at hSw); go_simp; try with_reducible rfl)
    try simp only [Act.put, List.getElem_toArray, List.getElem_cons_zero, List.getElem_cons_succ, List.setIfInBounds_toArray, List.set_cons_zero, List.set_cons_succ]
    have hdz := (below_drew (Below.refl wa.heap.size wa)).size
    have hwz := BW.out.size
    refine wpAnyH_ready (rs := [5]) (by kernel_rfl) (by simp) ?_
    refine AllReadyH.cons (o := ⟨some 16, _, _, _, _, _⟩) rfl (fun K hK => ?_) AllReadyH.nil
    go_simp
    refine (IHX.out k _ _ wa.drew p hk WX.out (HX.out.under (below_drew (Below.refl _ _))) (fun z hz => by have := HP.out z hz; omega) (by have := HE.out; omega)).mono ?_
    rintro e w3 ⟨A3, n3, c3, L3, rfl, hn3, ho3, b3⟩
    have B3 := Lib.hid (below_then (below_drew (Below.refl wa.heap.size wa)) b3)
    have h3z0 := b3.size
    have V3 : Hid (∀ b, b ∈ vblk (.slice A3 n3 c3) → wa.heap.size ≤ b) := fun b hb => Nat.le_trans hdz (own_vlt ho3.own b hb).1
    have O3 := Lib.hid (ho3.lower (Nat.le_trans hwz hdz))
    have N3 := Lib.hid hn3
    clear hn3 ho3 b3
    (try go_wp2_with fail)
    refine hK.out _ _ (HC.out w3 B3.out) (fun hHeld1 => ?_)
    clear hK K hHeld0
    try simp only [Act.put, List.getElem_toArray, List.getElem_cons_zero, List.getElem_cons_succ, List.setIfInBounds_toArray, List.set_cons_zero, List.set_cons_succ]
    refine wpAnyH_ready (rs := [11]) (by kernel_rfl) (by simp) ?_
    refine AllReadyH.cons (o := ⟨some 22, _, _, _, _, _⟩) rfl (fun K hK => ?_) AllReadyH.nil
    go_simp
    have h3z := B3.out.size
    refine (IHY.out k _ _ w3 p hk WY.out (HY.out.under B3.out) (fun z hz => by have := HP.out z hz; omega) (by have := HE.out; omega)).mono ?_
    rintro e w4 ⟨A4, n4, c4, L4, rfl, hn4, ho4, b4⟩
    have B4 := Lib.hid (below_then B3.out b4)
    have h3z' : wa.drew.heap.size ≤ w3.heap.size := h3z0
    have O34 := Lib.hid (O3.out.under b4)
    have O4 := Lib.hid (ho4.lower (Nat.le_trans hwz (Nat.le_trans hdz h3z')))
    have N4 := Lib.hid hn4
    clear hn4 ho4 b4 O3
    (try go_wp2_with fail)
    refine hK.out _ _ (HC.out w4 B4.out) (fun hHeld2 => ?_)
    clear hK K hHeld1
    try simp only [Act.put, List.getElem_toArray, List.getElem_cons_zero, List.getElem_cons_succ, List.setIfInBounds_toArray, List.set_cons_zero, List.set_cons_succ]
    refine wpAnyH_ready (rs := [12]) (by kernel_rfl) (by simp) ?_
    refine AllReadyH.cons (o := ⟨some 23, _, _, _, _, _⟩) rfl (fun K hK => ?_) AllReadyH.nil
    have hnn : n3 + n4 ≤ 4194304 := by have := HE.out; have := N3.out; have := N4.out; omega
    have OW3 : Hid (w4.ownsRow w.heap.size TRx 3 (.slice A3 n3 c3) n3 (kcells (lst k x) L3)) := by have := O34.out.own; rw [← N3.out] at this; exact this
    have h4z : w.heap.size ≤ w4.heap.size := Nat.le_trans hwz B4.out.size
    have hle : (kcells (lst k y) L4).length = n4 * 3 := by rw [kcells_length _ _ O4.out.len.symm, ← N4.out]
    refine step_append_row (by rfl) (.tmp 16) (.tmp 22) 24 (by rfl) w.heap.size TRx i1 (.agg #[.int .i64 0, nilS, nilS]) 3 56 Tryz.underlying24 hi hz0 hza hz2 rfl (by decide) (.slice A3 n3 c3) n3 (kcells (lst k x) L3) (by rfl) OW3.out A4 n4 c4 (kcells (lst k y) L4) (by rfl) O4.out.rowOf hle O4.out.ones (by unfold maxLen; omega) (by omega) h4z _ rfl (n3 + n4) rfl ?_
    intro A5 c5 w5 hown hgrow hat
    have h3v : Hid (∀ b, b ∈ vblk (.slice A3 n3 c3) → w.heap.size ≤ b) := fun b hb => (own_vlt OW3.out b hb).1
    have T5 : Hid (∀ q, q < w.heap.size → w5.heap[q]? = w4.heap[q]?) := fun q hq => hgrow.block q (by omega) fun e => by have := h3v.out q (mem_vblk.2 e.symm); omega
    have F5 : Hid (ListPost w.heap.size p (lst k a) w (.returned (.slice A5 (n3 + n4) c5)) w5) := by
      refine ⟨A5, n3 + n4, c5, L3 ++ L4, rfl, by rw [E.out, List.length_append, N3.out, N4.out], ?_, ?_⟩
      · rw [E.out]
        exact O34.out.app O4.out (fun b hb => HP.out b hb) (by rw [← N3.out, ← N4.out]; exact hown) (fun b hb _ => T5.out b (HP.out b hb)) (by rw [← N3.out, ← N4.out]; unfold maxN; omega)
      · exact ⟨hgrow.os.trans (B4.out.os.trans BW.out.os), hgrow.tape.trans (B4.out.tape.trans BW.out.tape), hgrow.output.trans (B4.out.output.trans BW.out.output), Nat.le_trans h4z hgrow.size, fun q hq => by rw [T5.out q hq, B4.out.block q (by omega), BW.out.block q hq]⟩
    have B5 : Hid (Below wa.heap.size wa w5) := B4.out.grown hgrow B4.out.size (fun q hq => V3.out q (mem_vblk.2 hq))
    clear hown hgrow hat T5 h3v
    refine hK.out _ _ (HC.out w5 B5.out) (fun hHeld3 => ?_)
    clear hK K hHeld2
    try simp only [Act.put, List.getElem_toArray, List.getElem_cons_zero, List.getElem_cons_succ, List.setIfInBounds_toArray, List.set_cons_zero, List.set_cons_succ]
    refine wpAnyH_take (i := 13) (v := ?_) rfl (by kernel_rfl) (by kernel_rfl) (by kernel_rfl) (fun _ _ _ h => h) (Or.inl ⟨by rfl, ?_⟩) (by assumption) ?_
    rotate_left
    · (intro w hSw; (try dsimp only at hSw); go_simp; try with_reducible rfl)
    try simp only [Act.put, List.getElem_toArray, List.getElem_cons_zero, List.getElem_cons_succ, List.setIfInBounds_toArray, List.set_cons_zero, List.set_cons_succ]
    refine wpAnyH_done (by kernel_rfl) ?_ _
    clear hHeld3 HC
    go_wp2_with fail
    go_ret
    exact F5.out
  · have E : Hid (lst k a = [a]) := lst_no hak
    have d4 : (a.kind == k) = false := by simp [hak]
    obtain ⟨wb, hwb⟩ : ∃ z : World, z = wa.alloc (.cells #[.int .i64 a.kind, .slice A a.set.length c, .slice K a.kids.length ck] TRx) := ⟨_, rfl⟩
    have hbb : Below wa.heap.size wa wb := by rw [hwb]; exact below_alloc (Below.refl _ _) _
    have MB : Hid (Blk wb wa.heap.size #[.int .i64 a.kind, .slice A a.set.length c, .slice K a.kids.length ck] TRx) := by rw [hwb]; exact blk_new _ _ _
    have HAb := Lib.hid (HA.out.under hbb)
    have BWb := Lib.hid (below_then BW.out hbb)
    have hz := BW.out.size
    replace hwb := hwb.symm
    clear hak hkk hb h IH hwf hp hbb
    go_enter Tryz.func156, Tryz.ntmps156
    go_wp2_with fail
    go_ret
    exact ⟨some ⟨wa.heap.size, 0, none⟩, 1, 1, [⟨[], .slice A a.set.length c, .slice K a.kids.length ck⟩], rfl, by rw [E.out]; rfl, by rw [E.out]; exact OwnR.one MB.out hz HP.out HAb.out, BWb.out⟩

end Go.Proofs.YtfeidjjabjejiaaGreatDoor
