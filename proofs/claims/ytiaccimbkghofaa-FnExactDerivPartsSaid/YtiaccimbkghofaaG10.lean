/- Texts joined for the claims: Pi Args TreeArgs SSArgs. -/
import Derived.Test.YtiaccimbkghofaaG9
import Derived.Test.YtiaccimbkghofaaG7
import Derived.Test.YtiaccimbkghofaaG3
import Derived.Deep.CutBlock
import Derived.Deep.DeepCutAuto
import Derived.Test.YtiaccimbkghofaaG2
import Derived.ProofKit
import Derived.OpenShut
import Derived.ShutString
import Derived.ChangeOld
import Derived.SizedLaws
import Derived.Deep.SlicePairs
import Derived.Test.YtiaccimbkghofaaG1
/- SetParts of the program: the sets as bits. -/
namespace Go.Proofs.Ytiaccimbkghofaa
set_option linter.unusedSimpArgs false
set_option linter.unusedVariables false
open Go.RowKit

def bitsL (xss : List (List Sp)) : List Value := xss.flatMap fun s => bitCells fun i => setHas s (i : Int)
theorem bitsL_snoc {xss : List (List Sp)} {j : Nat} {p : List Sp} (h : xss[j]? = some p) : bitsL (xss.take (j + 1)) = bitsL (xss.take j) ++ bitCells fun i => setHas p (i : Int) := by
  unfold bitsL
  rw [List.take_add_one, h, List.flatMap_append]
  simp
theorem bitsL_length : ∀ xss : List (List Sp), (bitsL xss).length = xss.length * 256
  | [] => rfl
  | s :: xss => by
    have := bitsL_length xss
    unfold bitsL at this ⊢
    rw [List.flatMap_cons, List.length_append, this, bitCells_length, List.length_cons]
    omega
theorem infoBits3 : (Try.prog.info? TBits).map (fun i => (i.zero, i.size, i.bytes)) = some (some (.agg (bitCells fun _ => false).toArray), 256, 256) := by kernel_rfl

set_option maxRecDepth 100000 in
set_option maxHeartbeats 2000000 in
theorem iSetParts_c (xss : List (List Sp)) (K : Option Addr) (ck : Nat) (w : World) {lo : Nat} (h : SSV w lo K ck xss) (hn : xss.length ≤ 1048576) :
    Calls Try.prog 43 #[.slice K xss.length ck] w fun e w' => ∃ v fp L, e = .returned v ∧ OwnSS w' fp v (setParts xss) L ∧ (∀ b, b ∈ fp → w.heap.size ≤ b) ∧ Below w.heap.size w w' := by
  have HP := Lib.hid h
  obtain ⟨i1, hi, hz0, hza, hz2⟩ := info_parts infoBits3
  have HO : Hid (w.ownsRow w.heap.size TBits 256 (.slice none 0 0) 0 (bitsL (xss.take 0))) := World.ownsRow_nil _ _ _ _
  clear h
  go_enter Try.func43, Try.ntmps43
  go_wp2_with fail
  go_loopg [3, 20] (xss.length) (fun n v3 v20 wr => ∃ j : Nat, j + n = xss.length ∧ v20 = .int .i64 j ∧ ∃ (A2 : Option Addr) (n2 c2 : Nat), v3 = .slice A2 n2 c2 ∧ n2 = j ∧ Hid (wr.ownsRow w.heap.size TBits 256 (.slice A2 n2 c2) n2 (bitsL (xss.take j))) ∧ Hid (∀ s ∈ xss.take j, setOk s = true) ∧ Hid (Below w.heap.size w wr))
  case atStart => exact ⟨0, by omega, rfl, none, 0, 0, rfl, rfl, HO, fun s hs => by simp at hs, Below.refl _ _⟩
  case round =>
    clear HO
    obtain ⟨j, hj, rfl, A2, n2, c2, rfl, hnj, HR, HK, HB⟩ := hrel
    subst hnj
    by_cases hlt : n2 < xss.length
    · have hlt' : (n2 : Int) < (xss.length : Int) := by omega
      have i0 : (0 : Int) ≤ (n2 : Int) := by omega
      obtain ⟨a, B, q, p, rfl, HX, HV, c0⟩ := HP.out.at_ n2 hlt
      have c1 := (HB.out.cell (World.block_lt_of_cell? w _ c0)).trans c0
      clear c0
      go_wp2_with fail
      refine (iSetOk_c _ _ p wr (HV.out.below HB.out)).mono ?_
      rintro e w1 ⟨rfl, b1⟩
      have B1 := Lib.hid (below_then HB.out b1)
      have HR1 := Lib.hid (own_below HR.out b1)
      clear c1 b1
      by_cases hok : setOk p = true
      · have HOK := Lib.hid hok
        rw [hok]
        clear hok
        go_wp2_with fail
        refine (bitsOf_c _ _ p w1 (HV.out.below B1.out)).mono ?_
        rintro e w2 ⟨rfl, b2⟩
        have B2 := Lib.hid (below_then B1.out b2)
        have HR2 := Lib.hid (own_below HR1.out b2)
        clear b2
        have HTK : Hid (xss.take (n2 + 1) = xss.take n2 ++ [p]) := by show _ = _; rw [List.take_add_one, HX.out]; rfl
        have HBL := Lib.hid (bitsL_snoc HX.out)
        go_wp2_with fail
        refine wp_build1 73 TBits (.tmp 29) rfl (bitCells fun i => setHas p (i : Int)).toArray i1 (.agg (bitCells fun _ => false).toArray) 256 Try.underlying73 hi hz0 hza (by decide) (by decide) (by simp [bitCells_length]) rfl ?_
        go_wp2_with (first
          | (refine wpList_append_row (by rfl) (.tmp 27) (.tmp 30) 73 (by rfl) w.heap.size TBits i1 (.agg (bitCells fun _ => false).toArray) 256 256 Try.underlying73 hi hz0 hza hz2 (by show (bitCells _).toArray.size = 256; simp [bitCells_length]) (by decide) (.slice A2 n2 c2) n2 (bitsL (xss.take n2)) (by rfl) (own_below HR2.out (below_alloc (Below.refl _ _) _)) (some ⟨w2.heap.size, 0, none⟩) 1 1 (bitCells fun i => setHas p (i : Int)) (by rfl) (.inr ⟨⟨w2.heap.size, 0, none⟩, rfl, Nat.zero_le _, new_cells w2 (bitCells fun i => setHas p (i : Int)) TBits⟩) (by rw [bitCells_length]) (bitCells_one _) (by unfold maxLen; omega) (by omega) (by have := B2.out.size; simp; omega) _ rfl (n2 + 1) rfl ?_; intro A5 c5 wE hown hgrow hat; have HE := Lib.hid hown; have BE : Hid (Below w.heap.size w wE) := (below_alloc B2.out _).grown hgrow (by have := B2.out.size; simp; omega) (fun q' hq => (own_vlt HR2.out q' (mem_vblk.2 hq)).1); clear hown hgrow hat))
        go_roundg (gk - 1)
        case rel =>
          refine ⟨n2 + 1, by omega, by go_num, A5, n2 + 1, c5, rfl, rfl, ?_, ?_, BE⟩
          · show World.ownsRow _ _ _ _ _ _ _; rw [HBL.out]; exact HE.out
          · intro s hs
            rw [HTK.out] at hs
            rcases List.mem_append.1 hs with h1 | h1
            · exact HK.out s h1
            · rw [List.mem_singleton.1 h1]; exact HOK.out
        case measure => omega
      · have hf : setOk p = false := by simpa using hok
        have E : Hid (setParts xss = []) := setParts_no (List.mem_of_getElem? HX.out) hf
        rw [hf]
        clear hok hf
        go_wp2
        go_ret
        refine ⟨_, [], [], rfl, ?_, fun b hb => absurd hb (List.not_mem_nil), B1.out⟩
        rw [E.out]
        exact OwnSS.nil _
    · have hj' : n2 = xss.length := by omega
      subst hj'
      rw [List.take_length] at HR HK
      have E : Hid (setParts xss = partsOf xss) := by show _ = _; rw [setParts, if_pos (List.all_eq_true.2 HK.out)]
      obtain ⟨wA, hwA⟩ : ∃ x : World, x = wr := ⟨_, rfl⟩
      subst hwA
      have H6 : Hid (wA.ownsRow wA.heap.size TBits 256 (.slice none 0 0) 0 (partC xss 0)) := World.ownsRow_nil _ _ _ _
      have H7 : Hid (wA.ownsRow wA.heap.size 3 1 (.slice none 0 0) 0 ((reps xss 0).map fun (r : Nat) => Value.int .i64 (r : Int))) := World.ownsRow_nil _ _ _ _
      have HD : Hid (∀ q, q ∈ vblk (.slice none 0 0) → q ∉ vblk (.slice none 0 0)) := fun q h => by cases h
      clear HK
      go_wp2_with fail
      go_loopg [6, 7, 8] 256 (fun n v6 v7 v8 wr => ∃ b : Nat, b + n = 256 ∧ v8 = .int .i64 b ∧ ∃ (A6 A7 : Option Addr) (m c6 c7 : Nat), v6 = .slice A6 m c6 ∧ v7 = .slice A7 m c7 ∧ Hid (m = (reps xss b).length) ∧ Hid (wr.ownsRow wA.heap.size TBits 256 (.slice A6 m c6) m (partC xss b)) ∧ Hid (wr.ownsRow wA.heap.size 3 1 (.slice A7 m c7) m ((reps xss b).map fun (r : Nat) => Value.int .i64 (r : Int))) ∧ Hid (∀ q, q ∈ vblk (.slice A6 m c6) → q ∉ vblk (.slice A7 m c7)) ∧ Hid (Below wA.heap.size wA wr))
      case atStart => exact ⟨0, rfl, rfl, none, none, 0, 0, 0, rfl, rfl, rfl, H6, H7, HD, Below.refl _ _⟩
      case round =>
        clear H6 H7 HD
        obtain ⟨b, hb, rfl, A6, A7, m, c6, c7, rfl, rfl, HM, H6, H7, HD, HA⟩ := hrel
        by_cases hlt : b < 256
        · have hlt' : (b : Int) < 256 := by omega
          have hmb : m ≤ b := by rw [HM.out]; exact reps_len _ _
          obtain ⟨gO, rfl⟩ : ∃ x, x = gk := ⟨_, rfl⟩
          obtain ⟨wb, hwb⟩ : ∃ x : World, x = wr := ⟨_, rfl⟩
          subst hwb
          go_upto_block 4 with fail
          go_cut [9] (fun s9 wx => ∃ at' : Int, s9 = .int .i64 at' ∧ Hid ((at' = -1 ∧ isRep xss b = true) ∨ (∃ i r : Nat, at' = i ∧ (reps xss b)[i]? = some r ∧ key xss r = key xss b)) ∧ Hid (Below wb.heap.size wb wx))
          case first =>
            go_wp2_with fail
            go_loopg [9, 39] m (fun n v9 v39 wr => ∃ i : Nat, i + n = m ∧ v39 = .int .i64 i ∧ v9 = .int .i64 (-1) ∧ Hid (∀ (i' r : Nat), i' < i → (reps xss b)[i']? = some r → key xss r ≠ key xss b) ∧ Hid (Below wb.heap.size wb wr))
            case atStart => exact ⟨0, by omega, rfl, rfl, fun i' r h => absurd h (Nat.not_lt_zero _), Below.refl _ _⟩
            case round =>
              obtain ⟨i, hi, rfl, rfl, HNO, HBb⟩ := hrel
              by_cases hil : i < m
              · have hil' : (i : Int) < (m : Int) := by omega
                have i0 : (0 : Int) ≤ (i : Int) := by omega
                obtain ⟨g7, cc, e7, hg7, hc7⟩ := own_form H7.out (by omega)
                injection e7 with e71 e72 e73
                subst e71 e73
                obtain ⟨r, hr⟩ : ∃ r, (reps xss b)[i]? = some r := ⟨_, List.getElem?_eq_getElem (by have := HM.out; omega)⟩
                have hrb := reps_lt (List.mem_of_getElem? hr)
                have HRI := Lib.hid hr
                have n7 : wr.cell? ⟨g7, i, none⟩ = some (.int .i64 r) := by
                  rw [(own_below H7.out HBb.out).cellAt i (by omega), List.getElem?_map, hr]
                  rfl
                clear hr
                obtain ⟨gI, rfl⟩ : ∃ x, x = gk := ⟨_, rfl⟩
                obtain ⟨wi, hwi⟩ : ∃ x : World, x = wr := ⟨_, rfl⟩
                subst hwi
                go_upto_block 6 with fail
                clear n7
                go_cut [12] (fun s12 wx => s12 = .bool (decide (key xss r = key xss b)) ∧ Hid (Below wi.heap.size wi wx))
                case first =>
                  go_wp2_with fail
                  go_loopg [12, 46] (xss.length) (fun n v12 v46 wr => ∃ k : Nat, k + n = xss.length ∧ v46 = .int .i64 k ∧ v12 = .bool (allE xss b r k) ∧ Hid (Below wi.heap.size wi wr))
                  case atStart => exact ⟨0, by omega, rfl, rfl, Below.refl _ _⟩
                  case round =>
                    obtain ⟨k, hk, rfl, rfl, HBi⟩ := hrel
                    by_cases hkl : k < xss.length
                    · have hkl' : (k : Int) < (xss.length : Int) := by omega
                      have k0 : (0 : Int) ≤ (k : Int) := by omega
                      obtain ⟨p, hp⟩ : ∃ p, xss[k]? = some p := ⟨_, List.getElem?_eq_getElem hkl⟩
                      have HS := Lib.hid (allE_succ (b := b) (f := r) hp)
                      obtain ⟨g3, cc3, e3, hg3, hc3⟩ := own_form HR.out (by omega)
                      injection e3 with e31 e32 e33
                      subst e31 e33
                      have HC := Lib.hid (own_elem (f := fun (s : List Sp) i => setHas s (i : Int)) (own_below (own_below (own_below (own_below HR.out HA.out) HBb.out) HBi.out) (Below.refl _ _)) hp)
                      clear hp
                      obtain ⟨gJ, rfl⟩ : ∃ x, x = gk := ⟨_, rfl⟩
                      obtain ⟨wk, hwk⟩ : ∃ x : World, x = wr := ⟨_, rfl⟩
                      subst hwk
                      go_upto_region 21 with fail
                      refine wp_region_lit ?_
                      refine ev_index rfl 73 TBits (.tmp 44) (.tmp 46) rfl Try.underlying73 256 sizeBits ⟨g3, 0, none⟩ xss.length c2 k .i64 rfl rfl hkl ?_
                      refine ev_load_at rfl TBits (.tmp 48) rfl _ rfl _ HC.out _ uBits rfl (sizeBits' _) ?_
                      refine ev_alloc rfl TBits rfl _ infoBits ?_
                      rintro _ w4 rfl hB4 hb4
                      refine ev_store rfl rfl TBits (.tmp 14) (.tmp 49) rfl wk.heap.size 0 rfl (bitCells fun i => setHas p (i : Int)) rfl _ TBits hB4 (sizeBits' _) (by simp [bitCells_length]) (bitCells_one _) ?_
                      intro w5 hs hg
                      rw [List.take_zero, List.nil_append, List.drop_of_length_le (by simp [bitCells_length]), List.append_nil] at hs
                      have B5 := Lib.hid (hb4.grown hg hb4.size (fun k' hk' => by injection hk' with hk'; omega))
                      have c1 := bit_cell hs b hlt
                      have c2' := bit_cell hs r (by omega)
                      clear hs hg hB4 hb4 HC
                      cases hal : allE xss b r k with
                      | true =>
                        have HS2 : Hid (allE xss b r (k + 1) = (setHas p (b : Int) == setHas p (r : Int))) := by show _ = _; rw [HS.out, hal]; rfl
                        have N1 : ∀ x : BW w5, x.w1.cell? ⟨wk.heap.size, b, none⟩ = some (.bool (setHas p (b : Int))) := fun x => x.cell c1
                        have N2 : ∀ x : BW w5, x.w1.cell? ⟨wk.heap.size, r, none⟩ = some (.bool (setHas p (r : Int))) := fun x => x.cell c2'
                        have r1 : (r : Int) < 256 := by omega
                        have r0 : (0 : Int) ≤ (r : Int) := by omega
                        have b0 : (0 : Int) ≤ (b : Int) := by omega
                        clear c1 c2' hal HS
                        go_wp2_with fail
                        refine wp_region_bw (by kernel_rfl) (by kernel_rfl) ?_
                        repeat (go_big_quiet_step ((fail)))
                        refine wpQuiet_nil ?_
                        rintro w1 ⟨x1, y1⟩
                        have b1 : Below w5.heap.size w5 w1 := y1 ▸ x1.up
                        clear y1 x1 N1 N2
                        go_wp2_with fail
                        go_roundg (gJ - 1)
                        case measure => omega
                        case rel => exact ⟨k + 1, by omega, by go_num, congrArg Value.bool HS2.out.symm, below_then HBi.out (below_then B5.out b1)⟩
                      | false =>
                        have HS2 : Hid (allE xss b r (k + 1) = false) := by show _ = _; rw [HS.out, hal]; rfl
                        clear c1 c2' hal HS
                        go_wp2_with fail
                        refine wp_region_bw (by kernel_rfl) (by kernel_rfl) ?_
                        repeat (go_big_quiet_step ((fail)))
                        refine wpQuiet_nil ?_
                        rintro w1 ⟨x1, y1⟩
                        have b1 : Below w5.heap.size w5 w1 := y1 ▸ x1.up
                        clear y1 x1
                        go_wp2_with fail
                        go_roundg (gJ - 1)
                        case measure => omega
                        case rel => exact ⟨k + 1, by omega, by go_num, congrArg Value.bool HS2.out.symm, below_then HBi.out (below_then B5.out b1)⟩
                    · have hk' : k = xss.length := by omega
                      have ED := Lib.hid (allE_done xss b r hk')
                      go_wp2_with fail
                      go_meet
                      exact ⟨congrArg Value.bool ED.out, HBi⟩
                case rest =>
                  obtain ⟨rfl, HX⟩ := hcut
                  by_cases hkey : key xss r = key xss b
                  · have HK2 := Lib.hid hkey
                    rw [decide_eq_true hkey]
                    clear hkey
                    go_wp2_with fail
                    go_meet
                    exact ⟨i, rfl, .inr ⟨i, r, rfl, HRI.out, HK2.out⟩, below_then HBb.out HX.out⟩
                  · have HK2 := Lib.hid hkey
                    rw [decide_eq_false hkey]
                    clear hkey
                    go_wp2_with fail
                    go_roundg (gI - 1)
                    case measure => omega
                    case rel =>
                      refine ⟨i + 1, by omega, by go_num, rfl, fun i' r' hi' hr' => ?_, below_then HBb.out HX.out⟩
                      by_cases e : i' = i
                      · subst e
                        rw [HRI.out] at hr'
                        obtain rfl := Option.some.inj hr'
                        exact HK2.out
                      · exact HNO.out i' r' (by omega) hr'
              · go_wp2_with fail
                go_meet
                exact ⟨-1, rfl, .inl ⟨rfl, rep_none fun i' r' hr' => HNO.out i' r' (by have := (List.getElem?_eq_some_iff.1 hr').1; have := HM.out; omega) hr'⟩, HBb⟩
          case rest =>
            obtain ⟨at', rfl, HF, HB1⟩ := hcut
            have H61 := Lib.hid (own_below H6.out HB1.out)
            have H71 := Lib.hid (own_below H7.out HB1.out)
            have HA1 := Lib.hid (below_then HA.out HB1.out)
            clear H6 H7 HA HB1
            rcases HF.out with ⟨rfl, hrep⟩ | ⟨i, r, rfl, hr, hkr⟩
            · have HREP := Lib.hid hrep
              clear HF hrep
              obtain ⟨iI, hiI, hzI0, hzI1, hzI2⟩ := info_parts infoI64
              have hb0 := HA1.out.size
              go_upto_region 29 with fail
              refine wp_region_lit ?_
              refine ev_move rfl (.tmp 6) rfl _ rfl ?_
              refine ev_zero_arr rfl TBits 4 256 1 rfl uBits (by kernel_rfl) _ infoBits ?_
              refine ev_build1 rfl 73 TBits (.tmp 69) rfl (bitCells fun _ => false).toArray i1 (.agg (bitCells fun _ => false).toArray) 256 Try.underlying73 hi hz0 hza (by decide) (by decide) (by simp [bitCells_length]) rfl ?_
              refine wpList_append_row rfl (.tmp 68) (.tmp 70) 73 rfl wA.heap.size TBits i1 (.agg (bitCells fun _ => false).toArray) 256 256 Try.underlying73 hi hz0 hza hz2 (by show (bitCells _).toArray.size = 256; simp [bitCells_length]) (by decide) (.slice A6 m c6) m (partC xss b) rfl (own_below H61.out (below_alloc (Below.refl _ _) _)) (some ⟨wc.heap.size, 0, none⟩) 1 1 (bitCells fun _ => false) rfl (.inr ⟨⟨wc.heap.size, 0, none⟩, rfl, Nat.zero_le _, new_cells wc (bitCells fun _ => false) TBits⟩) (by rw [bitCells_length]) (bitCells_one _) (by unfold maxLen; omega) (by omega) (by simp; omega) _ rfl (m + 1) rfl ?_
              intro A8 c8 w8 hown hgrow hat
              have HB8 := Lib.hid ((below_alloc HA1.out _).grown hgrow (by simp; omega) (fun q hq => (own_vlt H61.out q (mem_vblk.2 hq)).1))
              have H68 := Lib.hid hown
              have H78 := Lib.hid (own_move (own_below H71.out (below_alloc (Below.refl _ _) _)) (fun k hk => hgrow.block k (by have := (own_vlt H71.out k (mem_vblk.2 hk)).2; simp; omega) (fun e => HD.out k (mem_vblk.2 e.symm) (mem_vblk.2 hk))))
              have HD8 : Hid (∀ q, q ∈ vblk (.slice A8 (m + 1) c8) → q ∉ vblk (.slice A7 m c7)) := fun q hq h7 => by
                rcases hat q hq with h1 | h1
                · exact HD.out q h1 h7
                · have := (own_vlt H71.out q h7).2
                  simp at h1
                  omega
              have hb8 := HB8.out.size
              clear hown hgrow hat H61 H71 HD HA1
              refine ev_assign rfl (.tmp 71) rfl _ rfl ?_
              simp only [Act.put, List.setIfInBounds_toArray, List.set_cons_zero, List.set_cons_succ]
              go_upto_region 30 with fail
              refine wp_region_lit ?_
              refine ev_move rfl (.tmp 7) rfl _ rfl ?_
              refine ev_move rfl (.tmp 8) rfl _ rfl ?_
              simp only [Act.put, List.setIfInBounds_toArray, List.set_cons_zero, List.set_cons_succ]
              refine ev_build_i rfl 77 3 (.tmp 73) rfl .i64 b iI (.int .i64 0) Try.underlying77 hiI hzI0 hzI1 rfl ?_
              refine wpList_append_row rfl (.tmp 72) (.tmp 74) 77 rfl wA.heap.size 3 iI (.int .i64 0) 1 8 Try.underlying77 hiI hzI0 hzI1 hzI2 rfl (by decide) (.slice A7 m c7) m ((reps xss b).map fun (r : Nat) => Value.int .i64 (r : Int)) rfl (own_below H78.out (below_alloc (Below.refl _ _) _)) (some ⟨w8.heap.size, 0, none⟩) 1 1 [.int .i64 b] rfl (.inr ⟨⟨w8.heap.size, 0, none⟩, rfl, Nat.zero_le _, new_cells w8 [.int .i64 b] 3⟩) rfl (fun u hu => by rw [List.mem_singleton.1 hu]; rfl) (by unfold maxLen; omega) (by omega) (by simp; omega) _ rfl (m + 1) rfl ?_
              intro A9 c9 w9 hown hgrow hat
              have H79 := Lib.hid hown
              have HB9 := Lib.hid ((below_alloc HB8.out _).grown hgrow (by simp; omega) (fun q hq => (own_vlt H78.out q (mem_vblk.2 hq)).1))
              have H69 := Lib.hid (own_move (own_below H68.out (below_alloc (Below.refl _ _) _)) (fun k hk => hgrow.block k (by have := (own_vlt H68.out k (mem_vblk.2 hk)).2; simp; omega) (fun e => HD8.out k (mem_vblk.2 hk) (mem_vblk.2 e.symm))))
              have HD9 : Hid (∀ q, q ∈ vblk (.slice A8 (m + 1) c8) → q ∉ vblk (.slice A9 (m + 1) c9)) := fun q hq h7 => by
                rcases hat q h7 with h1 | h1
                · exact HD8.out q hq h1
                · have := (own_vlt H68.out q hq).2
                  simp at h1
                  omega
              clear hown hgrow hat H78 H68 HD8
              refine ev_assign rfl (.tmp 75) rfl _ rfl ?_
              obtain ⟨g6, cc, e6, hg6, hc6⟩ := own_form H69.out (by omega)
              injection e6 with e61 e62 e63
              subst e61 e63
              have hml : m * 256 + b < (partC xss b ++ bitCells fun _ => false).length := by rw [List.length_append, partC_len, bitCells_length, ← HM.out]; omega
              have c0 : w9.cell? ⟨g6, m * 256 + b, none⟩ = some _ := (H69.out.cellAt _ (by omega)).trans (List.getElem?_eq_getElem hml)
              have f0 : w9.frozen? ⟨g6, m * 256 + b, none⟩ = false := H69.out.frozenAt _
              have m1 : (m : Int) < ((m + 1 : Nat) : Int) := by omega
              have m0 : (0 : Int) ≤ (m : Int) := by omega
              have b0 : (0 : Int) ≤ (b : Int) := by omega
              go_wp2_with fail
              clear c0 f0
              go_roundg (gO - 1)
              case measure => omega
              case rel =>
                refine ⟨b + 1, by omega, by go_num, some ⟨g6, 0, none⟩, A9, m + 1, c8, c9, rfl, rfl, by show _ = _; rw [reps_yes HREP.out, HM.out]; simp, ?_, ?_, HD9, below_set HB9.out hg6 _⟩
                · have hs := (H69.out.stored (m * 256 + b) (.bool true)).1
                  rw [HM.out, partC_new hlt HREP.out, ← HM.out] at hs
                  exact hs
                · have hs := own_move H79.out (w1 := w9.setCell ⟨g6, m * 256 + b, none⟩ (.bool true)) (fun k hk => Below.heap_setCell _ _ _ _ (fun e => HD9.out g6 (mem_vblk.2 rfl) (by rw [show g6 = k from e.symm]; exact mem_vblk.2 hk)))
                  rw [show ((reps xss (b + 1)).map fun (r : Nat) => Value.int .i64 (r : Int)) = ((reps xss b).map fun (r : Nat) => Value.int .i64 (r : Int)) ++ [.int .i64 b] by rw [reps_yes HREP.out]; simp]
                  exact hs
            · have HRI := Lib.hid hr
              have HK2 := Lib.hid hkr
              have him : i < m := by have := (List.getElem?_eq_some_iff.1 hr).1; have := HM.out; omega
              clear HF hr hkr
              obtain ⟨g6, cc, e6, hg6, hc6⟩ := own_form H61.out (by omega)
              injection e6 with e61 e62 e63
              subst e61 e63
              have hml : i * 256 + b < (partC xss b).length := by rw [partC_len, ← HM.out]; omega
              have c0 : wc.cell? ⟨g6, i * 256 + b, none⟩ = some _ := (H61.out.cellAt _ (by omega)).trans (List.getElem?_eq_getElem hml)
              have f0 : wc.frozen? ⟨g6, i * 256 + b, none⟩ = false := H61.out.frozenAt _
              have m1 : (i : Int) < (m : Int) := by omega
              have m0 : (0 : Int) ≤ (i : Int) := by omega
              have b0 : (0 : Int) ≤ (b : Int) := by omega
              go_wp2_with fail
              clear c0 f0
              go_roundg (gO - 1)
              case measure => omega
              case rel =>
                refine ⟨b + 1, by omega, by go_num, some ⟨g6, 0, none⟩, A7, m, c6, c7, rfl, rfl, by show _ = _; rw [reps_no (rep_some HRI.out HK2.out), HM.out], ?_, ?_, HD, below_set HA1.out hg6 _⟩
                · have hs := (H61.out.stored (i * 256 + b) (.bool true)).1
                  rw [partC_found hlt HRI.out HK2.out] at hs
                  exact hs
                · have hs := own_move H71.out (w1 := wc.setCell ⟨g6, i * 256 + b, none⟩ (.bool true)) (fun k hk => Below.heap_setCell _ _ _ _ (fun e => HD.out g6 (mem_vblk.2 rfl) (by rw [show g6 = k from e.symm]; exact mem_vblk.2 hk)))
                  rw [reps_no (rep_some HRI.out HK2.out)]
                  exact hs
        · have hb' : b = 256 := by omega
          subst hb'
          have hmb : m ≤ 256 := by rw [HM.out]; exact reps_len _ _
          have hPm : Hid ((partsOf xss).length = m) := by show _ = _; rw [HM.out]; unfold partsOf; rw [List.length_map]; rfl
          obtain ⟨iS, hiS, hzS0, hzS1, hzS2⟩ := info_parts infoSS
          obtain ⟨wz, hwz⟩ : ∃ x : World, x = wr := ⟨_, rfl⟩
          subst hwz
          have hs0 := HB.out.size
          have hs1 := HA.out.size
          go_wp2_with (at_make; refine wpList_make_full _ rfl (.tmp 82) (.tmp 82) 37 rfl wz.heap.size TSS iS nilS 1 Try.underlying37 hiS hzS0 hzS1 .i64 .i64 _ _ m rfl rfl rfl rfl (by rw [hzS2]; omega) (by unfold maxLen; omega) (Nat.le_refl _) ?_; intro w1 hown hgrow)
          obtain ⟨cur, hB, hcs, _⟩ := own_blk hown
          have HX := Lib.hid (SPart.first (lo := w.heap.size) (xss := partsOf xss) hB (by rw [hcs, hPm.out, Nat.mul_one]) (by rw [hPm.out]; unfold maxLen; omega) (by omega))
          have HZ := Lib.hid ((Below.refl _ wz).grown hgrow (Nat.le_refl _) (fun k hk => by cases hk))
          clear hown hgrow hiS hzS0 hzS1 hzS2 hB hcs HD H7 HR
          go_loopg [86] m (fun n i wr => ∃ k : Nat, k + n = m ∧ i = .int .i64 k ∧ ∃ (cur : Array Value) (L : List Value), Hid (SPart wr wz.heap.size w.heap.size cur (partsOf xss) k L) ∧ Hid (Below wz.heap.size wz wr))
          case atStart => exact ⟨0, by omega, rfl, cur, [], HX, HZ⟩
          case round =>
            clear HX HZ
            obtain ⟨k, hk, rfl, cur, L, HX, HZ⟩ := hrel
            by_cases hlt : k < m
            · have hlt' : (k : Int) < (m : Int) := by omega
              have k0 : (0 : Int) ≤ (k : Int) := by omega
              obtain ⟨r, hr⟩ : ∃ r, (reps xss 256)[k]? = some r := ⟨_, List.getElem?_eq_getElem (by have := HM.out; omega)⟩
              have HPK : Hid ((partsOf xss)[k]? = some (partOf xss r)) := by
                show _ = _
                unfold partsOf
                rw [List.getElem?_map]
                rw [show (List.filter (fun x => isRep xss x) (List.range 256)) = reps xss 256 from rfl, hr]
                rfl
              have ES : Hid (spansOf (partF xss 256 r) = partOf xss r) := spansOf_congr fun y hy => by unfold partF; simp [hy]
              obtain ⟨g6, cc6, e6, hg6, hc6⟩ := own_form H6.out (by omega)
              injection e6 with e61 e62 e63
              subst e61 e63
              have HC := Lib.hid (own_elem (f := partF xss 256) (own_below H6.out HZ.out) hr)
              clear hr
              obtain ⟨wk, hwk⟩ : ∃ x : World, x = wr := ⟨_, rfl⟩
              subst hwk
              go_upto_region 35 with fail
              refine wp_region_lit ?_
              refine ev_move rfl (.tmp 86) rfl _ rfl ?_
              refine ev_index rfl 73 TBits (.tmp 84) (.tmp 86) rfl Try.underlying73 256 sizeBits ⟨g6, 0, none⟩ m c6 k .i64 rfl rfl hlt ?_
              refine ev_load_at rfl TBits (.tmp 89) rfl _ rfl _ HC.out _ uBits rfl (sizeBits' _) ?_
              refine ev_alloc rfl TBits rfl _ infoBits ?_
              rintro _ w4 rfl hB4 hb4
              simp only [Act.put, List.setIfInBounds_toArray, List.set_cons_zero, List.set_cons_succ]
              refine ev_assign rfl (.tmp 88) rfl _ rfl ?_
              refine ev_store rfl rfl TBits (.tmp 17) (.tmp 90) rfl wk.heap.size 0 rfl (bitCells (partF xss 256 r)) rfl _ TBits hB4 (sizeBits' _) (by simp [bitCells_length]) (bitCells_one _) ?_
              intro w5 hs hg
              rw [List.take_zero, List.nil_append, List.drop_of_length_le (by simp [bitCells_length]), List.append_nil] at hs
              have B5 := Lib.hid (hb4.grown hg hb4.size (fun k' hk' => by injection hk' with hk'; omega))
              have HS5 := Lib.hid hs
              clear hs hg hB4 hb4 HC
              simp only [Act.put, List.setIfInBounds_toArray, List.set_cons_zero, List.set_cons_succ]
              go_upto_region 36 with fail
              go_wp2_with (with_reducible refine ev_load (o := ⟨some 93, _, _, _, _, _⟩) rfl TBits _ rfl wk.heap.size rfl (bitCells (partF xss 256 r)) TBits HS5.out _ uBits rfl (sizeBits' _) ?_)
              refine (spans_c (partF xss 256 r) _).mono ?_
              rintro e w6 ⟨v, rfl, ho, b6⟩
              rw [ES.out] at ho
              obtain ⟨A5, c5, rfl, _⟩ := ho.sps
              have HO := Lib.hid (ho.lower B5.out.size)
              have HO' := Lib.hid ho
              have B6 := Lib.hid (below_then B5.out b6)
              have HX2 := Lib.hid (HX.out.blk.below B6.out)
              have hcs := HX.out.size
              obtain ⟨u0, e1⟩ : ∃ u0, w6.cell? ⟨wz.heap.size, k, none⟩ = some u0 := ⟨_, by rw [HX2.out.cell]; exact Array.getElem?_eq_getElem (by have := hPm.out; omega)⟩
              have e2 := HX2.out.free k
              clear ho b6
              go_wp2
              clear e1 e2
              go_roundg (gk - 1)
              case rel =>
                have hs3 := HZ.out.size
                exact ⟨k + 1, by omega, by go_num, _, _, HX.out.snoc HPK.out B6.out HO.out (by omega), below_set (below_then HZ.out B6.out) (Nat.le_refl _) _⟩
              case measure => omega
            · have hk' : k = m := by omega
              go_wp2
              go_ret
              have hd := HX.out.done (hk'.trans hPm.out.symm)
              rw [hPm.out] at hd
              refine ⟨_, _, L, rfl, ?_, fun b hb => HX.out.lo b hb, below_then (below_then HB.out HA.out) HZ.out⟩
              rw [E.out]
              exact hd

end Go.Proofs.Ytiaccimbkghofaa

/- The laws' arguments, out of the form's reading: a list of spans. -/
namespace Go.Proofs.Ytiaccimbkghofaa
set_option linter.unusedSimpArgs false
set_option linter.unusedVariables false
open Go.RowKit Go.ChangeShapes Go.WideShapes

theorem own_knob : ownKnob Try.prog.godebug = none := by kernel_rfl
theorem laid_out : laidOutB Try.prog = true := by kernel_rfl

theorem cellsAt_spans {w : World} {a : Addr} {xs : List Sp} (h : ∀ i, i < xs.length → w.cell? (a.add (i * 2)) = some (.int .i64 (xs.getD i default).lo) ∧ w.cell? (a.add (i * 2 + 1)) = some (.int .i64 (xs.getD i default).hi)) : CellsAt w a (spcs xs) := by
  intro j u hj
  have hlt : j < xs.length * 2 := by
    rw [← spcs_length]
    exact (List.getElem?_eq_some_iff.1 hj).1
  have hg := spcs_get xs (j / 2) (by omega)
  have hc := h (j / 2) (by omega)
  rcases Nat.mod_two_eq_zero_or_one j with e | e
  · have ej : j / 2 * 2 = j := by omega
    rw [ej] at hg hc
    rw [hg.1] at hj
    rw [hc.1, hj]
  · have ej : j / 2 * 2 + 1 = j := by omega
    rw [ej] at hg hc
    rw [hg.2] at hj
    rw [hc.2, hj]

/-- a slice of the laws' spans, read -/
theorem open_spans {H : Type} {enc : TypeId × Value → H} {w : World} {spare : Nat → Bool} {held : Bool} {fuel : Nat} {cs : List Value} {x : DataW H × List MemPlace}
    (h : DataW.trod enc Try.prog w 0 spare held fuel 22 cs = some x) : ∃ A c xs, cs = [.slice A (List.length xs) c] ∧ Sps w 0 A c xs := by
  rcases Go.Deep.open_slice_pairs Try.underlying22 Try.underlying80 (by kernel_rfl) rfl rfl (by kernel_rfl) (by kernel_rfl) h with ⟨rfl, _⟩ | ⟨a, len, cap, m, n, V0, V1, D0, D1, P0, P1, rfl, _, hl, hm, hmm, _, hx⟩
  · exact ⟨none, 0, [], rfl, .inl rfl, Nat.le_refl _, by simp⟩
  · have hlm : len ≤ m := by rw [hmm]; split <;> omega
    have g : ∀ i, i < len → ∃ p : Sp, w.cell? (a.add (i * 2)) = some (.int .i64 p.lo) ∧ w.cell? (a.add (i * 2 + 1)) = some (.int .i64 p.hi) := by
      intro i hi
      obtain ⟨h0, h1, t0, t1⟩ := hx i (by omega)
      obtain ⟨n0, e0, _⟩ := DataW.trod_int Try.underlying3 t0
      obtain ⟨n1, e1, _⟩ := DataW.trod_int Try.underlying3 t1
      rw [List.cons.injEq] at e0 e1
      exact ⟨⟨n0, n1⟩, by rw [h0, e0.1], by rw [h1, e1.1]⟩
    obtain ⟨f, hf⟩ := Go.Deep.choose_lt (α := Sp) g
    refine ⟨some a, cap, (List.range len).map f, by rw [List.length_map, List.length_range], ?_, by rw [List.length_map, List.length_range]; exact hl, by rw [List.length_map, List.length_range]; unfold maxLen at hm; unfold maxN; omega⟩
    rcases Nat.eq_zero_or_pos len with h0 | hpos
    · subst h0
      exact .inl rfl
    · refine .inr ⟨a, rfl, Nat.zero_le _, cellsAt_spans fun i hi => ?_⟩
      have hi' : i < len := by simpa using hi
      have e : ((List.range len).map f).getD i default = f i := by simp [List.getD_eq_getElem?_getD, hi']
      rw [e]
      exact hf i hi'

end Go.Proofs.Ytiaccimbkghofaa

/- The laws' arguments: a tree. -/
namespace Go.Proofs.Ytiaccimbkghofaa
set_option linter.unusedSimpArgs false
set_option linter.unusedVariables false
open Go.RowKit Go.ChangeShapes Go.WideShapes

theorem cells_int : Try.prog.cellsOf 3 = 1 := by kernel_rfl
theorem cells_spans : Try.prog.cellsOf 22 = 1 := by kernel_rfl
theorem cells_rexs : Try.prog.cellsOf 23 = 1 := by kernel_rfl
theorem cells_rex : Try.prog.cellsOf 25 = 3 := by kernel_rfl

theorem add_pos (a : Addr) (n : Nat) (u : Value) (w : World) (h : w.cell? (a.add n) = some u) (hn : 0 < n) : a.add n = ⟨a.block, a.off + n, none⟩ := by
  have := World.cell?_spot h
  unfold Addr.add at this ⊢
  split
  · omega
  · simp_all

set_option maxHeartbeats 1000000 in
theorem open_rex {H : Type} {enc : TypeId × Value → H} {w : World} {spare : Nat → Bool} {held : Bool} : ∀ (fuel : Nat) (cs : List Value) (x : DataW H × List MemPlace),
    DataW.trod enc Try.prog w 0 spare held fuel 25 cs = some x → ∃ r v0 v1 v2, cs = [v0, v1, v2] ∧ RexV w 0 r v0 v1 v2 := by
  intro fuel
  induction fuel using Nat.strongRecOn with
  | _ fuel ih =>
    intro cs x h
    obtain ⟨xs, n, rfl, _, hcs, hxl, hf⟩ := DataW.trod_struct Try.underlying25 h
    rw [cells_rex] at hcs
    match xs, hxl, cs, hcs with
    | [y0, y1, y2], _, [v0, v1, v2], _ =>
      have g0 := hf 0 _ rfl
      have g1 := hf 1 _ rfl
      have g2 := hf 2 _ rfl
      simp [cells_int, cells_spans, cells_rexs] at g0 g1 g2
      obtain ⟨k, e0, _⟩ := DataW.trod_int Try.underlying3 g0
      rw [List.cons.injEq] at e0
      obtain ⟨A, c, s, e1, hs⟩ := open_spans g1
      rw [List.cons.injEq] at e1
      obtain ⟨rfl, _⟩ := e0
      obtain ⟨rfl, _⟩ := e1
      rcases DataW.trod_slice Try.underlying23 g2 with ⟨e2, _⟩ | ⟨a, len, cap, elems, rest, m, rfl, e2, _, _, hl, hm, hlen, hel, _, _⟩
      · rw [List.cons.injEq] at e2
        obtain ⟨rfl, _⟩ := e2
        exact ⟨.mk k s [], _, _, _, rfl, .mk k s [] A none c 0 (fun _ => undef) (fun _ => undef) (fun _ => undef) hs (Nat.le_refl _) (Nat.zero_le _) (fun i hi => by simp at hi) (fun i r hi => by simp at hi)⟩
      · rw [List.cons.injEq] at e2
        obtain ⟨rfl, _⟩ := e2
        have each : ∀ i, i < len → ∃ q : Rex × Value × Value × Value, KCell w 0 (some a) i q.2.1 q.2.2.1 q.2.2.2 ∧ RexV w 0 q.1 q.2.1 q.2.2.1 q.2.2.2 := by
          intro i hi
          have h1 := hel i hi
          rw [List.getElem?_eq_getElem (by omega)] at h1
          obtain ⟨cs', h2, h3⟩ := Option.bind_eq_some_iff.1 h1
          obtain ⟨r, u0, u1, u2, rfl, hv⟩ := ih m (by omega) cs' _ h3
          rw [cells_rex] at h2
          obtain ⟨_, _, hcell⟩ := World.cells?_some h2
          have c0 : w.cell? ((a.add (i * 3)).add 0) = some u0 := by simpa using hcell 0 (by omega)
          have c1 : w.cell? ((a.add (i * 3)).add 1) = some u1 := by simpa using hcell 1 (by omega)
          have c2 : w.cell? ((a.add (i * 3)).add 2) = some u2 := by simpa using hcell 2 (by omega)
          rw [show (a.add (i * 3)).add 0 = a.add (i * 3) by simp [Addr.add]] at c0
          rw [add_pos _ _ _ _ c1 (by omega)] at c1
          rw [add_pos _ _ _ _ c2 (by omega)] at c2
          exact ⟨(r, u0, u1, u2), ⟨a, rfl, Nat.zero_le _, c0, c1, c2⟩, hv⟩
        obtain ⟨q, hq⟩ := Go.Deep.choose_lt each
        refine ⟨.mk k s ((List.range len).map fun i => (q i).1), _, _, _, rfl, ?_⟩
        have hlen' : ((List.range len).map fun i => (q i).1).length = len := by simp
        have hv := RexV.of (w := w) (lo := 0) (k := k) (A := A) (c := c) (K := some a) (ck := cap) hs (ks := (List.range len).map fun i => (q i).1) ⟨⟨fun i => (q i).2.1, fun i => (q i).2.2.1, fun i => (q i).2.2.2, fun i hi => (hq i (by omega)).1, fun i r hi => by
          rw [List.getElem?_map, Option.map_eq_some_iff] at hi
          obtain ⟨j, hj, rfl⟩ := hi
          obtain ⟨hj1, hj2⟩ := List.getElem?_eq_some_iff.1 hj
          simp at hj1 hj2
          subst hj2
          exact (hq i hj1).2⟩, by omega, by unfold maxLen at hm; unfold maxN; omega⟩
        rw [hlen'] at hv
        exact hv

end Go.Proofs.Ytiaccimbkghofaa

/- The laws' arguments, out of the form's reading: a list of lists of spans. -/
namespace Go.Proofs.Ytiaccimbkghofaa
set_option linter.unusedSimpArgs false
set_option linter.unusedVariables false
open Go.RowKit Go.ChangeShapes Go.WideShapes

set_option maxHeartbeats 1000000 in
theorem open_spanss {H : Type} {enc : TypeId × Value → H} {w : World} {spare : Nat → Bool} {held : Bool} {fuel : Nat} {cs : List Value} {x : DataW H × List MemPlace}
    (h : DataW.trod enc Try.prog w 0 spare held fuel 47 cs = some x) : ∃ A c xss, cs = [.slice A (List.length xss) c] ∧ SSV w 0 A c xss := by
  rcases DataW.trod_slice Try.underlying47 h with ⟨e2, _⟩ | ⟨a, len, cap, elems, rest, m, rfl, e2, _, _, hl, hm, hlen, hel, _, _⟩
  · exact ⟨none, 0, [], e2, fun i xs hi => by simp at hi, Nat.le_refl _, by simp⟩
  · have each : ∀ i, i < len → ∃ q : List Sp × Option Addr × Nat, w.cell? (a.add i) = some (.slice q.2.1 q.1.length q.2.2) ∧ Sps w 0 q.2.1 q.2.2 q.1 := by
      intro i hi
      have h1 := hel i hi
      rw [List.getElem?_eq_getElem (by omega)] at h1
      obtain ⟨cs', h2, h3⟩ := Option.bind_eq_some_iff.1 h1
      obtain ⟨A, c, xs, rfl, hs⟩ := open_spans h3
      rw [cells_spans] at h2
      obtain ⟨_, _, hcell⟩ := World.cells?_some h2
      have c0 : w.cell? ((a.add (i * 1)).add 0) = some (.slice A xs.length c) := by simpa using hcell 0 (by omega)
      rw [show (a.add (i * 1)).add 0 = a.add i by simp [Addr.add]] at c0
      exact ⟨(xs, A, c), c0, hs⟩
    obtain ⟨q, hq⟩ := Go.Deep.choose_lt each
    have hlen' : ((List.range len).map fun i => (q i).1).length = len := by simp
    refine ⟨some a, cap, (List.range len).map fun i => (q i).1, by rw [hlen']; exact e2, fun i xs hi => ?_, by rw [hlen']; exact hl, by rw [hlen']; unfold maxLen at hm; unfold maxN; omega⟩
    rw [List.getElem?_map, Option.map_eq_some_iff] at hi
    obtain ⟨j, hj, rfl⟩ := hi
    obtain ⟨hj1, hj2⟩ := List.getElem?_eq_some_iff.1 hj
    simp at hj1 hj2
    subst hj2
    exact ⟨a, (q i).2.1, (q i).2.2, rfl, Nat.zero_le _, (hq i hj1).1, (hq i hj1).2⟩

end Go.Proofs.Ytiaccimbkghofaa
