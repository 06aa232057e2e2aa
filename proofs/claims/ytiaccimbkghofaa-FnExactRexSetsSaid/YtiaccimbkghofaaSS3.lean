/- markSpanSS. -/
import Derived.Test.YtiaccimbkghofaaSS2
namespace Go.Proofs.Ytiaccimbkghofaa
set_option linter.unusedSimpArgs false
set_option linter.unusedVariables false
open Go.RowKit

theorem flat_apart {α : Type} {f : α → List Nat} : ∀ (M : List α) (i j : Nat) (x y : α), (M.flatMap f).Nodup → M[i]? = some x → M[j]? = some y → i ≠ j → ∀ b, b ∈ f x → b ∈ f y → False
  | [], i, j, x, y, _, h, _, _, _, _, _ => by simp at h
  | z :: M, 0, 0, x, y, _, _, _, hij, _, _, _ => hij rfl
  | z :: M, 0, j + 1, x, y, hn, hi, hj, _, b, h1, h2 => by
    rw [List.flatMap_cons] at hn
    simp at hi hj
    subst hi
    exact (List.nodup_append.1 hn).2.2 b h1 b (List.mem_flatMap.2 ⟨y, List.mem_of_getElem? hj, h2⟩) rfl
  | z :: M, i + 1, 0, x, y, hn, hi, hj, _, b, h1, h2 => by
    rw [List.flatMap_cons] at hn
    simp at hi hj
    subst hj
    exact (List.nodup_append.1 hn).2.2 b h2 b (List.mem_flatMap.2 ⟨x, List.mem_of_getElem? hi, h1⟩) rfl
  | z :: M, i + 1, j + 1, x, y, hn, hi, hj, hij, b, h1, h2 => by
    rw [List.flatMap_cons] at hn
    simp at hi hj
    exact flat_apart M i j x y (List.nodup_append.1 hn).2.1 hi hj (fun e => hij (by rw [e])) b h1 h2

theorem OwnSS.at_ {w : World} {fp : List Nat} {K : Option Addr} {n ck : Nat} {xss : List (List Sp)} {L : List Value} (h : OwnSS w fp (.slice K n ck) xss L) (i : Nat) {xs : List Sp} (hi : xss[i]? = some xs) :
    ∃ a A c, K = some a ∧ Hid (L[i]? = some (.slice A xs.length c)) ∧ Hid (OwnSp w 0 (.slice A xs.length c) xs) ∧ w.cell? (a.add i) = some (.slice A xs.length c) := by
  have hl := (List.getElem?_eq_some_iff.1 hi).1
  have hL := h.hL
  have hx : L[i]? = some L[i] := List.getElem?_eq_getElem (by omega)
  have ho := h.hr i xs _ hi hx
  obtain ⟨A, c, e, _⟩ := ho.sps
  obtain ⟨K', c', e2, _, hr⟩ := own_row h.hk
  injection e2 with e2
  subst e2
  rw [e] at ho hx
  rcases hr with h0 | ⟨a, rfl, _, hc⟩
  · rw [h0] at hx; simp at hx
  · exact ⟨a, A, c, rfl, hx, ho, hc i _ hx⟩
theorem OwnSS.ssv {w : World} {fp : List Nat} {v : Value} {xss : List (List Sp)} {L : List Value} (h : OwnSS w fp v xss L) : ∃ K ck, v = .slice K xss.length ck ∧ SSV w 0 K ck xss := by
  obtain ⟨K, ck, e, hck, hr⟩ := own_row h.hk
  subst e
  refine ⟨K, ck, rfl, fun i xs hi => ?_, hck, h.hn⟩
  obtain ⟨a, A, c, e, _, ho, hc⟩ := h.at_ i hi
  exact ⟨a, A, c, e, Nat.zero_le _, hc, ho.out.row⟩
theorem OwnSS.set {w w' : World} {fp : List Nat} {v : Value} {xss : List (List Sp)} {L : List Value} (h : OwnSS w fp v xss L) (j : Nat) {x : Value} {ys : List Sp} (hx : L[j]? = some x) (ht : Touch (vblk x) w w') (ho : OwnSp w' 0 x ys) :
    OwnSS w' fp v (xss.set j ys) L := by
  have hlt := h.lt
  obtain ⟨hL, hkk, hn, hrr, fe, nd⟩ := h
  have hl : (xss.set j ys).length = xss.length := List.length_set
  rw [fe] at nd hlt
  obtain ⟨nd1, nd2, nd3⟩ := List.nodup_append.1 nd
  refine ⟨by rw [hl]; exact hL, by rw [hl]; exact own_move hkk fun g hg => ht.block g (hkk.lt g hg).2 fun h2 => nd3 g (mem_vblk.2 hg) g (mem_vbs.2 ⟨j, x, hx, h2⟩) rfl, by rw [hl]; exact hn, fun i r0 y hi hy => ?_, fe, by rw [fe]; exact nd⟩
  rw [List.getElem?_set] at hi
  split at hi
  · rename_i e
    subst e
    split at hi
    · injection hi with hi
      subst hi
      rw [hx] at hy
      injection hy with hy
      subst hy
      exact ho
    · cases hi
  · rename_i hne
    have hT := hrr i r0 y hi hy
    exact hT.stay fun b hb => ht.block b (hT.lt b hb).2 fun h2 => flat_apart L i j y x nd2 hy hx (fun e => hne e.symm) b hb h2

set_option maxHeartbeats 1000000 in
theorem markSpanSS_c (xss : List (List Sp)) (K : Option Addr) (ck : Nat) (L : List Value) (fp : List Nat) (q : Int) (w : World) (h : OwnSS w fp (.slice K xss.length ck) xss L) (h0 : 0 ≤ q) (h1 : q + cntSS xss ≤ 1073741824) :
    Calls Try.prog 29 #[.slice K xss.length ck, .int .i64 q] w fun e w' => e = .returned (.int .i64 (q + cntSS xss)) ∧ OwnSS w' fp (.slice K xss.length ck) (markSS q xss) L ∧ Touch fp w w' := by
  have hlen := h.hn
  unfold maxN at hlen
  have HO := Lib.hid h
  have HL := Lib.hid (markSS_length xss q)
  clear h
  go_enter Try.func29, Try.ntmps29
  go_wp2
  go_loopg [1, 5] (xss.length) (fun n q' i wr => ∃ j : Nat, j + n = xss.length ∧ i = .int .i64 j ∧ q' = .int .i64 (q + cntSS (xss.take j)) ∧ Hid (OwnSS wr fp (.slice K xss.length ck) ((markSS q xss).take j ++ xss.drop j) L) ∧ Hid (Touch fp w wr))
  case atStart => exact ⟨0, by omega, rfl, by simp [cntSS], by simpa [Hid] using HO.out, Touch.refl _ _⟩
  case round =>
    obtain ⟨j, hj, rfl, rfl, HK, HT⟩ := hrel
    have hle := cntSS_take_le xss j
    by_cases hlt : j < xss.length
    · obtain ⟨xs, hx⟩ : ∃ xs, xss[j]? = some xs := ⟨xss[j], List.getElem?_eq_getElem hlt⟩
      have hx2 := hx
      rw [← mix_get (markSS q xss) xss j hlt HL.out] at hx2
      obtain ⟨a, A, c, rfl, HX, HV, c0⟩ := HK.out.at_ j hx2
      have hct := cntSS_take xss j hx
      have hcl := cntSS_take_le xss (j + 1)
      obtain ⟨p, hp⟩ : ∃ p : Nat, p = cntSS (xss.take j) := ⟨_, rfl⟩
      rw [← hp] at hct hle ⊢
      have HP := Lib.hid hp
      have HCT := Lib.hid hct
      have HXX := Lib.hid hx
      have hb1 : q + (p : Int) + 2 * (xs.length : Int) ≤ 1073741824 := by omega
      have hsl : xs.length ≤ 1073741824 := by omega
      clear hp hct hcl hle hx hx2
      go_wp2_with fail
      refine (markSpanS_c A c xs _ _ HV.out (by omega) (by omega) hsl).mono ?_
      rintro e w2 ⟨rfl, os2, g2⟩
      have T2 := Lib.hid (Touch.of_grown g2)
      have HOS2 := Lib.hid os2
      clear c0 os2 g2
      go_wp2
      go_roundg (gk - 1)
      case measure => omega
      case rel =>
        have hct := HCT.out
        have e1 := markSS_get xss j q HXX.out
        rw [← HP.out] at e1
        have hK := HK.out.set j HX.out T2.out HOS2.out
        rw [mix_step _ _ _ _ _ HXX.out e1 HL.out] at hK
        refine ⟨j + 1, by omega, by go_num, by rw [hct]; congr 1; omega, hK, HT.out.trans (T2.out.wide fun b hb => ?_)⟩
        rw [HK.out.fe]
        exact List.mem_append_right _ (mem_vbs.2 ⟨j, _, HX.out, hb⟩)
    · go_wp2
      go_ret
      have hj' : j = xss.length := by omega
      have hk := HK.out
      rw [hj', List.drop_length, List.append_nil, List.take_of_length_le (by rw [HL.out]; exact Nat.le_refl _)] at hk
      exact ⟨ret_int (by rw [hj', List.take_length]), hk, HT.out⟩

end Go.Proofs.Ytiaccimbkghofaa
