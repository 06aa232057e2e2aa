/- Texts joined for the claims: Pi Rd Dr Dr2. -/
import Derived.Test.YtplhbjpkkhhilaaG7
import Derived.Test.YtplhbjpkkhhilaaG5
import Derived.Test.YtplhbjpkkhhilaaG2
import Derived.Deep.CutBlock
import Derived.Deep.DeepCutAuto
import Derived.Test.YtplhbjpkkhhilaaG1
import Derived.Laws.Bits64
import Derived.Test.YtplhbjpkkhhilaaG6
import Derived.Deep.AppendLies
import Derived.Deep.RegionLaw
/- SetParts of the program: the sets as bits. -/
namespace Go.Proofs.Ytplhbjpkkhhilaa
set_option linter.unusedSimpArgs false
set_option linter.unusedVariables false
open Go.RowKit

def bitsL (xss : List (List Sp)) : List Value := xss.flatMap fun s => bitCells fun i => setHas s (i : Int)
theorem bitsL_snoc {xss : List (List Sp)} {j : Nat} {p : List Sp} (h : xss[j]? = some p) : bitsL (xss.take (j + 1)) = bitsL (xss.take j) ++ bitCells fun i => setHas p (i : Int) := by
  unfold bitsL
  rw [List.take_add_one, h, List.flatMap_append]
  simp
theorem bitsL_length : ∀ xss : List (List Sp), (bitsL xss).length = xss.length * 256
  | [] => rfl
  | s :: xss => by
    have := bitsL_length xss
    unfold bitsL at this ⊢
    rw [List.flatMap_cons, List.length_append, this, bitCells_length, List.length_cons]
    omega
theorem infoBits3 : (Try.prog.info? TBits).map (fun i => (i.zero, i.size, i.bytes)) = some (some (.agg (bitCells fun _ => false).toArray), 256, 256) := by kernel_rfl

set_option maxRecDepth 100000 in
set_option maxHeartbeats 2000000 in
theorem iSetParts_c (xss : List (List Sp)) (K : Option Addr) (ck : Nat) (w : World) {lo : Nat} (h : SSV w lo K ck xss) (hn : xss.length ≤ 1048576) :
    Calls Try.prog 12 #[.slice K xss.length ck] w fun e w' => ∃ v fp L, e = .returned v ∧ OwnSS w' fp v (setParts xss) L ∧ (∀ b, b ∈ fp → w.heap.size ≤ b) ∧ Below w.heap.size w w' := by
  have HP := Lib.hid h
  obtain ⟨i1, hi, hz0, hza, hz2⟩ := info_parts infoBits3
  have HO : Hid (w.ownsRow w.heap.size TBits 256 (.slice none 0 0) 0 (bitsL (xss.take 0))) := World.ownsRow_nil _ _ _ _
  clear h
  go_enter Try.func12, Try.ntmps12
  go_wp2_with fail
  go_loopg [3, 20] (xss.length) (fun n v3 v20 wr => ∃ j : Nat, j + n = xss.length ∧ v20 = .int .i64 j ∧ ∃ (A2 : Option Addr) (n2 c2 : Nat), v3 = .slice A2 n2 c2 ∧ n2 = j ∧ Hid (wr.ownsRow w.heap.size TBits 256 (.slice A2 n2 c2) n2 (bitsL (xss.take j))) ∧ Hid (∀ s ∈ xss.take j, setOk s = true) ∧ Hid (Below w.heap.size w wr))
  case atStart => exact ⟨0, by omega, rfl, none, 0, 0, rfl, rfl, HO, fun s hs => by simp at hs, Below.refl _ _⟩
  case round =>
    clear HO
    obtain ⟨j, hj, rfl, A2, n2, c2, rfl, hnj, HR, HK, HB⟩ := hrel
    subst hnj
    by_cases hlt : n2 < xss.length
    · have hlt' : (n2 : Int) < (xss.length : Int) := by omega
      have i0 : (0 : Int) ≤ (n2 : Int) := by omega
      obtain ⟨a, B, q, p, rfl, HX, HV, c0⟩ := HP.out.at_ n2 hlt
      have c1 := (HB.out.cell (World.block_lt_of_cell? w _ c0)).trans c0
      clear c0
      go_wp2_with fail
      refine (iSetOk_c _ _ p wr (HV.out.below HB.out)).mono ?_
      rintro e w1 ⟨rfl, b1⟩
      have B1 := Lib.hid (below_then HB.out b1)
      have HR1 := Lib.hid (own_below HR.out b1)
      clear c1 b1
      by_cases hok : setOk p = true
      · have HOK := Lib.hid hok
        rw [hok]
        clear hok
        go_wp2_with fail
        refine (bitsOf_c _ _ p w1 (HV.out.below B1.out)).mono ?_
        rintro e w2 ⟨rfl, b2⟩
        have B2 := Lib.hid (below_then B1.out b2)
        have HR2 := Lib.hid (own_below HR1.out b2)
        clear b2
        have HTK : Hid (xss.take (n2 + 1) = xss.take n2 ++ [p]) := by show _ = _; rw [List.take_add_one, HX.out]; rfl
        have HBL := Lib.hid (bitsL_snoc HX.out)
        go_wp2_with fail
        refine wp_build1 55 TBits (.tmp 29) rfl (bitCells fun i => setHas p (i : Int)).toArray i1 (.agg (bitCells fun _ => false).toArray) 256 Try.underlying55 hi hz0 hza (by decide) (by decide) (by simp [bitCells_length]) rfl ?_
        go_wp2_with (first
          | (refine wpList_append_row (by rfl) (.tmp 27) (.tmp 30) 55 (by rfl) w.heap.size TBits i1 (.agg (bitCells fun _ => false).toArray) 256 256 Try.underlying55 hi hz0 hza hz2 (by show (bitCells _).toArray.size = 256; simp [bitCells_length]) (by decide) (.slice A2 n2 c2) n2 (bitsL (xss.take n2)) (by rfl) (own_below HR2.out (below_alloc (Below.refl _ _) _)) (some ⟨w2.heap.size, 0, none⟩) 1 1 (bitCells fun i => setHas p (i : Int)) (by rfl) (.inr ⟨⟨w2.heap.size, 0, none⟩, rfl, Nat.zero_le _, new_cells w2 (bitCells fun i => setHas p (i : Int)) TBits⟩) (by rw [bitCells_length]) (bitCells_one _) (by unfold maxLen; omega) (by omega) (by have := B2.out.size; simp; omega) _ rfl (n2 + 1) rfl ?_; intro A5 c5 wE hown hgrow hat; have HE := Lib.hid hown; have BE : Hid (Below w.heap.size w wE) := (below_alloc B2.out _).grown hgrow (by have := B2.out.size; simp; omega) (fun q' hq => (own_vlt HR2.out q' (mem_vblk.2 hq)).1); clear hown hgrow hat))
        go_roundg (gk - 1)
        case rel =>
          refine ⟨n2 + 1, by omega, by go_num, A5, n2 + 1, c5, rfl, rfl, ?_, ?_, BE⟩
          · show World.ownsRow _ _ _ _ _ _ _; rw [HBL.out]; exact HE.out
          · intro s hs
            rw [HTK.out] at hs
            rcases List.mem_append.1 hs with h1 | h1
            · exact HK.out s h1
            · rw [List.mem_singleton.1 h1]; exact HOK.out
        case measure => omega
      · have hf : setOk p = false := by simpa using hok
        have E : Hid (setParts xss = []) := setParts_no (List.mem_of_getElem? HX.out) hf
        rw [hf]
        clear hok hf
        go_wp2
        go_ret
        refine ⟨_, [], [], rfl, ?_, fun b hb => absurd hb (List.not_mem_nil), B1.out⟩
        rw [E.out]
        exact OwnSS.nil _
    · have hj' : n2 = xss.length := by omega
      subst hj'
      rw [List.take_length] at HR HK
      have E : Hid (setParts xss = partsOf xss) := by show _ = _; rw [setParts, if_pos (List.all_eq_true.2 HK.out)]
      obtain ⟨wA, hwA⟩ : ∃ x : World, x = wr := ⟨_, rfl⟩
      subst hwA
      have H6 : Hid (wA.ownsRow wA.heap.size TBits 256 (.slice none 0 0) 0 (partC xss 0)) := World.ownsRow_nil _ _ _ _
      have H7 : Hid (wA.ownsRow wA.heap.size 3 1 (.slice none 0 0) 0 ((reps xss 0).map fun (r : Nat) => Value.int .i64 (r : Int))) := World.ownsRow_nil _ _ _ _
      have HD : Hid (∀ q, q ∈ vblk (.slice none 0 0) → q ∉ vblk (.slice none 0 0)) := fun q h => by cases h
      clear HK
      go_wp2_with fail
      go_loopg [6, 7, 8] 256 (fun n v6 v7 v8 wr => ∃ b : Nat, b + n = 256 ∧ v8 = .int .i64 b ∧ ∃ (A6 A7 : Option Addr) (m c6 c7 : Nat), v6 = .slice A6 m c6 ∧ v7 = .slice A7 m c7 ∧ Hid (m = (reps xss b).length) ∧ Hid (wr.ownsRow wA.heap.size TBits 256 (.slice A6 m c6) m (partC xss b)) ∧ Hid (wr.ownsRow wA.heap.size 3 1 (.slice A7 m c7) m ((reps xss b).map fun (r : Nat) => Value.int .i64 (r : Int))) ∧ Hid (∀ q, q ∈ vblk (.slice A6 m c6) → q ∉ vblk (.slice A7 m c7)) ∧ Hid (Below wA.heap.size wA wr))
      case atStart => exact ⟨0, rfl, rfl, none, none, 0, 0, 0, rfl, rfl, rfl, H6, H7, HD, Below.refl _ _⟩
      case round =>
        clear H6 H7 HD
        obtain ⟨b, hb, rfl, A6, A7, m, c6, c7, rfl, rfl, HM, H6, H7, HD, HA⟩ := hrel
        by_cases hlt : b < 256
        · have hlt' : (b : Int) < 256 := by omega
          have hmb : m ≤ b := by rw [HM.out]; exact reps_len _ _
          obtain ⟨gO, rfl⟩ : ∃ x, x = gk := ⟨_, rfl⟩
          obtain ⟨wb, hwb⟩ : ∃ x : World, x = wr := ⟨_, rfl⟩
          subst hwb
          go_upto_block 4 with fail
          go_cut [9] (fun s9 wx => ∃ at' : Int, s9 = .int .i64 at' ∧ Hid ((at' = -1 ∧ isRep xss b = true) ∨ (∃ i r : Nat, at' = i ∧ (reps xss b)[i]? = some r ∧ key xss r = key xss b)) ∧ Hid (Below wb.heap.size wb wx))
          case first =>
            go_wp2_with fail
            go_loopg [9, 39] m (fun n v9 v39 wr => ∃ i : Nat, i + n = m ∧ v39 = .int .i64 i ∧ v9 = .int .i64 (-1) ∧ Hid (∀ (i' r : Nat), i' < i → (reps xss b)[i']? = some r → key xss r ≠ key xss b) ∧ Hid (Below wb.heap.size wb wr))
            case atStart => exact ⟨0, by omega, rfl, rfl, fun i' r h => absurd h (Nat.not_lt_zero _), Below.refl _ _⟩
            case round =>
              obtain ⟨i, hi, rfl, rfl, HNO, HBb⟩ := hrel
              by_cases hil : i < m
              · have hil' : (i : Int) < (m : Int) := by omega
                have i0 : (0 : Int) ≤ (i : Int) := by omega
                obtain ⟨g7, cc, e7, hg7, hc7⟩ := own_form H7.out (by omega)
                injection e7 with e71 e72 e73
                subst e71 e73
                obtain ⟨r, hr⟩ : ∃ r, (reps xss b)[i]? = some r := ⟨_, List.getElem?_eq_getElem (by have := HM.out; omega)⟩
                have hrb := reps_lt (List.mem_of_getElem? hr)
                have HRI := Lib.hid hr
                have n7 : wr.cell? ⟨g7, i, none⟩ = some (.int .i64 r) := by
                  rw [(own_below H7.out HBb.out).cellAt i (by omega), List.getElem?_map, hr]
                  rfl
                clear hr
                obtain ⟨gI, rfl⟩ : ∃ x, x = gk := ⟨_, rfl⟩
                obtain ⟨wi, hwi⟩ : ∃ x : World, x = wr := ⟨_, rfl⟩
                subst hwi
                go_upto_block 6 with fail
                clear n7
                go_cut [12] (fun s12 wx => s12 = .bool (decide (key xss r = key xss b)) ∧ Hid (Below wi.heap.size wi wx))
                case first =>
                  go_wp2_with fail
                  go_loopg [12, 46] (xss.length) (fun n v12 v46 wr => ∃ k : Nat, k + n = xss.length ∧ v46 = .int .i64 k ∧ v12 = .bool (allE xss b r k) ∧ Hid (Below wi.heap.size wi wr))
                  case atStart => exact ⟨0, by omega, rfl, rfl, Below.refl _ _⟩
                  case round =>
                    obtain ⟨k, hk, rfl, rfl, HBi⟩ := hrel
                    by_cases hkl : k < xss.length
                    · have hkl' : (k : Int) < (xss.length : Int) := by omega
                      have k0 : (0 : Int) ≤ (k : Int) := by omega
                      obtain ⟨p, hp⟩ : ∃ p, xss[k]? = some p := ⟨_, List.getElem?_eq_getElem hkl⟩
                      have HS := Lib.hid (allE_succ (b := b) (f := r) hp)
                      obtain ⟨g3, cc3, e3, hg3, hc3⟩ := own_form HR.out (by omega)
                      injection e3 with e31 e32 e33
                      subst e31 e33
                      have HC := Lib.hid (own_elem (f := fun (s : List Sp) i => setHas s (i : Int)) (own_below (own_below (own_below (own_below HR.out HA.out) HBb.out) HBi.out) (Below.refl _ _)) hp)
                      clear hp
                      obtain ⟨gJ, rfl⟩ : ∃ x, x = gk := ⟨_, rfl⟩
                      obtain ⟨wk, hwk⟩ : ∃ x : World, x = wr := ⟨_, rfl⟩
                      subst hwk
                      go_upto_region 21 with fail
                      refine wp_region_lit ?_
                      refine ev_index rfl 55 TBits (.tmp 44) (.tmp 46) rfl Try.underlying55 256 sizeBits ⟨g3, 0, none⟩ xss.length c2 k .i64 rfl rfl hkl ?_
                      refine ev_load_at rfl TBits (.tmp 48) rfl _ rfl _ HC.out _ uBits rfl (sizeBits' _) ?_
                      refine ev_alloc rfl TBits rfl _ infoBits ?_
                      rintro _ w4 rfl hB4 hb4
                      refine ev_store rfl rfl TBits (.tmp 14) (.tmp 49) rfl wk.heap.size 0 rfl (bitCells fun i => setHas p (i : Int)) rfl _ TBits hB4 (sizeBits' _) (by simp [bitCells_length]) (bitCells_one _) ?_
                      intro w5 hs hg
                      rw [List.take_zero, List.nil_append, List.drop_of_length_le (by simp [bitCells_length]), List.append_nil] at hs
                      have B5 := Lib.hid (hb4.grown hg hb4.size (fun k' hk' => by injection hk' with hk'; omega))
                      have c1 := bit_cell hs b hlt
                      have c2' := bit_cell hs r (by omega)
                      clear hs hg hB4 hb4 HC
                      cases hal : allE xss b r k with
                      | true =>
                        have HS2 : Hid (allE xss b r (k + 1) = (setHas p (b : Int) == setHas p (r : Int))) := by show _ = _; rw [HS.out, hal]; rfl
                        have N1 : ∀ x : BW w5, x.w1.cell? ⟨wk.heap.size, b, none⟩ = some (.bool (setHas p (b : Int))) := fun x => x.cell c1
                        have N2 : ∀ x : BW w5, x.w1.cell? ⟨wk.heap.size, r, none⟩ = some (.bool (setHas p (r : Int))) := fun x => x.cell c2'
                        have r1 : (r : Int) < 256 := by omega
                        have r0 : (0 : Int) ≤ (r : Int) := by omega
                        have b0 : (0 : Int) ≤ (b : Int) := by omega
                        clear c1 c2' hal HS
                        go_wp2_with fail
                        refine wp_region_bw (by kernel_rfl) (by kernel_rfl) ?_
                        repeat (go_big_quiet_step ((fail)))
                        refine wpQuiet_nil ?_
                        rintro w1 ⟨x1, y1⟩
                        have b1 : Below w5.heap.size w5 w1 := y1 ▸ x1.up
                        clear y1 x1 N1 N2
                        go_wp2_with fail
                        go_roundg (gJ - 1)
                        case measure => omega
                        case rel => exact ⟨k + 1, by omega, by go_num, congrArg Value.bool HS2.out.symm, below_then HBi.out (below_then B5.out b1)⟩
                      | false =>
                        have HS2 : Hid (allE xss b r (k + 1) = false) := by show _ = _; rw [HS.out, hal]; rfl
                        clear c1 c2' hal HS
                        go_wp2_with fail
                        refine wp_region_bw (by kernel_rfl) (by kernel_rfl) ?_
                        repeat (go_big_quiet_step ((fail)))
                        refine wpQuiet_nil ?_
                        rintro w1 ⟨x1, y1⟩
                        have b1 : Below w5.heap.size w5 w1 := y1 ▸ x1.up
                        clear y1 x1
                        go_wp2_with fail
                        go_roundg (gJ - 1)
                        case measure => omega
                        case rel => exact ⟨k + 1, by omega, by go_num, congrArg Value.bool HS2.out.symm, below_then HBi.out (below_then B5.out b1)⟩
                    · have hk' : k = xss.length := by omega
                      have ED := Lib.hid (allE_done xss b r hk')
                      go_wp2_with fail
                      go_meet
                      exact ⟨congrArg Value.bool ED.out, HBi⟩
                case rest =>
                  obtain ⟨rfl, HX⟩ := hcut
                  by_cases hkey : key xss r = key xss b
                  · have HK2 := Lib.hid hkey
                    rw [decide_eq_true hkey]
                    clear hkey
                    go_wp2_with fail
                    go_meet
                    exact ⟨i, rfl, .inr ⟨i, r, rfl, HRI.out, HK2.out⟩, below_then HBb.out HX.out⟩
                  · have HK2 := Lib.hid hkey
                    rw [decide_eq_false hkey]
                    clear hkey
                    go_wp2_with fail
                    go_roundg (gI - 1)
                    case measure => omega
                    case rel =>
                      refine ⟨i + 1, by omega, by go_num, rfl, fun i' r' hi' hr' => ?_, below_then HBb.out HX.out⟩
                      by_cases e : i' = i
                      · subst e
                        rw [HRI.out] at hr'
                        obtain rfl := Option.some.inj hr'
                        exact HK2.out
                      · exact HNO.out i' r' (by omega) hr'
              · go_wp2_with fail
                go_meet
                exact ⟨-1, rfl, .inl ⟨rfl, rep_none fun i' r' hr' => HNO.out i' r' (by have := (List.getElem?_eq_some_iff.1 hr').1; have := HM.out; omega) hr'⟩, HBb⟩
          case rest =>
            obtain ⟨at', rfl, HF, HB1⟩ := hcut
            have H61 := Lib.hid (own_below H6.out HB1.out)
            have H71 := Lib.hid (own_below H7.out HB1.out)
            have HA1 := Lib.hid (below_then HA.out HB1.out)
            clear H6 H7 HA HB1
            rcases HF.out with ⟨rfl, hrep⟩ | ⟨i, r, rfl, hr, hkr⟩
            · have HREP := Lib.hid hrep
              clear HF hrep
              obtain ⟨iI, hiI, hzI0, hzI1, hzI2⟩ := info_parts infoI64
              have hb0 := HA1.out.size
              go_upto_region 29 with fail
              refine wp_region_lit ?_
              refine ev_move rfl (.tmp 6) rfl _ rfl ?_
              refine ev_zero_arr rfl TBits 4 256 1 rfl uBits (by kernel_rfl) _ infoBits ?_
              refine ev_build1 rfl 55 TBits (.tmp 69) rfl (bitCells fun _ => false).toArray i1 (.agg (bitCells fun _ => false).toArray) 256 Try.underlying55 hi hz0 hza (by decide) (by decide) (by simp [bitCells_length]) rfl ?_
              refine wpList_append_row rfl (.tmp 68) (.tmp 70) 55 rfl wA.heap.size TBits i1 (.agg (bitCells fun _ => false).toArray) 256 256 Try.underlying55 hi hz0 hza hz2 (by show (bitCells _).toArray.size = 256; simp [bitCells_length]) (by decide) (.slice A6 m c6) m (partC xss b) rfl (own_below H61.out (below_alloc (Below.refl _ _) _)) (some ⟨wc.heap.size, 0, none⟩) 1 1 (bitCells fun _ => false) rfl (.inr ⟨⟨wc.heap.size, 0, none⟩, rfl, Nat.zero_le _, new_cells wc (bitCells fun _ => false) TBits⟩) (by rw [bitCells_length]) (bitCells_one _) (by unfold maxLen; omega) (by omega) (by simp; omega) _ rfl (m + 1) rfl ?_
              intro A8 c8 w8 hown hgrow hat
              have HB8 := Lib.hid ((below_alloc HA1.out _).grown hgrow (by simp; omega) (fun q hq => (own_vlt H61.out q (mem_vblk.2 hq)).1))
              have H68 := Lib.hid hown
              have H78 := Lib.hid (own_move (own_below H71.out (below_alloc (Below.refl _ _) _)) (fun k hk => hgrow.block k (by have := (own_vlt H71.out k (mem_vblk.2 hk)).2; simp; omega) (fun e => HD.out k (mem_vblk.2 e.symm) (mem_vblk.2 hk))))
              have HD8 : Hid (∀ q, q ∈ vblk (.slice A8 (m + 1) c8) → q ∉ vblk (.slice A7 m c7)) := fun q hq h7 => by
                rcases hat q hq with h1 | h1
                · exact HD.out q h1 h7
                · have := (own_vlt H71.out q h7).2
                  simp at h1
                  omega
              have hb8 := HB8.out.size
              clear hown hgrow hat H61 H71 HD HA1
              refine ev_assign rfl (.tmp 71) rfl _ rfl ?_
              simp only [Act.put, List.setIfInBounds_toArray, List.set_cons_zero, List.set_cons_succ]
              go_upto_region 30 with fail
              refine wp_region_lit ?_
              refine ev_move rfl (.tmp 7) rfl _ rfl ?_
              refine ev_move rfl (.tmp 8) rfl _ rfl ?_
              simp only [Act.put, List.setIfInBounds_toArray, List.set_cons_zero, List.set_cons_succ]
              refine ev_build_i rfl 60 3 (.tmp 73) rfl .i64 b iI (.int .i64 0) Try.underlying60 hiI hzI0 hzI1 rfl ?_
              refine wpList_append_row rfl (.tmp 72) (.tmp 74) 60 rfl wA.heap.size 3 iI (.int .i64 0) 1 8 Try.underlying60 hiI hzI0 hzI1 hzI2 rfl (by decide) (.slice A7 m c7) m ((reps xss b).map fun (r : Nat) => Value.int .i64 (r : Int)) rfl (own_below H78.out (below_alloc (Below.refl _ _) _)) (some ⟨w8.heap.size, 0, none⟩) 1 1 [.int .i64 b] rfl (.inr ⟨⟨w8.heap.size, 0, none⟩, rfl, Nat.zero_le _, new_cells w8 [.int .i64 b] 3⟩) rfl (fun u hu => by rw [List.mem_singleton.1 hu]; rfl) (by unfold maxLen; omega) (by omega) (by simp; omega) _ rfl (m + 1) rfl ?_
              intro A9 c9 w9 hown hgrow hat
              have H79 := Lib.hid hown
              have HB9 := Lib.hid ((below_alloc HB8.out _).grown hgrow (by simp; omega) (fun q hq => (own_vlt H78.out q (mem_vblk.2 hq)).1))
              have H69 := Lib.hid (own_move (own_below H68.out (below_alloc (Below.refl _ _) _)) (fun k hk => hgrow.block k (by have := (own_vlt H68.out k (mem_vblk.2 hk)).2; simp; omega) (fun e => HD8.out k (mem_vblk.2 hk) (mem_vblk.2 e.symm))))
              have HD9 : Hid (∀ q, q ∈ vblk (.slice A8 (m + 1) c8) → q ∉ vblk (.slice A9 (m + 1) c9)) := fun q hq h7 => by
                rcases hat q h7 with h1 | h1
                · exact HD8.out q hq h1
                · have := (own_vlt H68.out q hq).2
                  simp at h1
                  omega
              clear hown hgrow hat H78 H68 HD8
              refine ev_assign rfl (.tmp 75) rfl _ rfl ?_
              obtain ⟨g6, cc, e6, hg6, hc6⟩ := own_form H69.out (by omega)
              injection e6 with e61 e62 e63
              subst e61 e63
              have hml : m * 256 + b < (partC xss b ++ bitCells fun _ => false).length := by rw [List.length_append, partC_len, bitCells_length, ← HM.out]; omega
              have c0 : w9.cell? ⟨g6, m * 256 + b, none⟩ = some _ := (H69.out.cellAt _ (by omega)).trans (List.getElem?_eq_getElem hml)
              have f0 : w9.frozen? ⟨g6, m * 256 + b, none⟩ = false := H69.out.frozenAt _
              have m1 : (m : Int) < ((m + 1 : Nat) : Int) := by omega
              have m0 : (0 : Int) ≤ (m : Int) := by omega
              have b0 : (0 : Int) ≤ (b : Int) := by omega
              go_wp2_with fail
              clear c0 f0
              go_roundg (gO - 1)
              case measure => omega
              case rel =>
                refine ⟨b + 1, by omega, by go_num, some ⟨g6, 0, none⟩, A9, m + 1, c8, c9, rfl, rfl, by show _ = _; rw [reps_yes HREP.out, HM.out]; simp, ?_, ?_, HD9, below_set HB9.out hg6 _⟩
                · have hs := (H69.out.stored (m * 256 + b) (.bool true)).1
                  rw [HM.out, partC_new hlt HREP.out, ← HM.out] at hs
                  exact hs
                · have hs := own_move H79.out (w1 := w9.setCell ⟨g6, m * 256 + b, none⟩ (.bool true)) (fun k hk => Below.heap_setCell _ _ _ _ (fun e => HD9.out g6 (mem_vblk.2 rfl) (by rw [show g6 = k from e.symm]; exact mem_vblk.2 hk)))
                  rw [show ((reps xss (b + 1)).map fun (r : Nat) => Value.int .i64 (r : Int)) = ((reps xss b).map fun (r : Nat) => Value.int .i64 (r : Int)) ++ [.int .i64 b] by rw [reps_yes HREP.out]; simp]
                  exact hs
            · have HRI := Lib.hid hr
              have HK2 := Lib.hid hkr
              have him : i < m := by have := (List.getElem?_eq_some_iff.1 hr).1; have := HM.out; omega
              clear HF hr hkr
              obtain ⟨g6, cc, e6, hg6, hc6⟩ := own_form H61.out (by omega)
              injection e6 with e61 e62 e63
              subst e61 e63
              have hml : i * 256 + b < (partC xss b).length := by rw [partC_len, ← HM.out]; omega
              have c0 : wc.cell? ⟨g6, i * 256 + b, none⟩ = some _ := (H61.out.cellAt _ (by omega)).trans (List.getElem?_eq_getElem hml)
              have f0 : wc.frozen? ⟨g6, i * 256 + b, none⟩ = false := H61.out.frozenAt _
              have m1 : (i : Int) < (m : Int) := by omega
              have m0 : (0 : Int) ≤ (i : Int) := by omega
              have b0 : (0 : Int) ≤ (b : Int) := by omega
              go_wp2_with fail
              clear c0 f0
              go_roundg (gO - 1)
              case measure => omega
              case rel =>
                refine ⟨b + 1, by omega, by go_num, some ⟨g6, 0, none⟩, A7, m, c6, c7, rfl, rfl, by show _ = _; rw [reps_no (rep_some HRI.out HK2.out), HM.out], ?_, ?_, HD, below_set HA1.out hg6 _⟩
                · have hs := (H61.out.stored (i * 256 + b) (.bool true)).1
                  rw [partC_found hlt HRI.out HK2.out] at hs
                  exact hs
                · have hs := own_move H71.out (w1 := wc.setCell ⟨g6, i * 256 + b, none⟩ (.bool true)) (fun k hk => Below.heap_setCell _ _ _ _ (fun e => HD.out g6 (mem_vblk.2 rfl) (by rw [show g6 = k from e.symm]; exact mem_vblk.2 hk)))
                  rw [reps_no (rep_some HRI.out HK2.out)]
                  exact hs
        · have hb' : b = 256 := by omega
          subst hb'
          have hmb : m ≤ 256 := by rw [HM.out]; exact reps_len _ _
          have hPm : Hid ((partsOf xss).length = m) := by show _ = _; rw [HM.out]; unfold partsOf; rw [List.length_map]; rfl
          obtain ⟨iS, hiS, hzS0, hzS1, hzS2⟩ := info_parts infoSS
          obtain ⟨wz, hwz⟩ : ∃ x : World, x = wr := ⟨_, rfl⟩
          subst hwz
          have hs0 := HB.out.size
          have hs1 := HA.out.size
          go_wp2_with (at_make; refine wpList_make_full _ rfl (.tmp 82) (.tmp 82) 23 rfl wz.heap.size TSS iS nilS 1 Try.underlying23 hiS hzS0 hzS1 .i64 .i64 _ _ m rfl rfl rfl rfl (by rw [hzS2]; omega) (by unfold maxLen; omega) (Nat.le_refl _) ?_; intro w1 hown hgrow)
          obtain ⟨cur, hB, hcs, _⟩ := own_blk hown
          have HX := Lib.hid (SPart.first (lo := w.heap.size) (xss := partsOf xss) hB (by rw [hcs, hPm.out, Nat.mul_one]) (by rw [hPm.out]; unfold maxLen; omega) (by omega))
          have HZ := Lib.hid ((Below.refl _ wz).grown hgrow (Nat.le_refl _) (fun k hk => by cases hk))
          clear hown hgrow hiS hzS0 hzS1 hzS2 hB hcs HD H7 HR
          go_loopg [86] m (fun n i wr => ∃ k : Nat, k + n = m ∧ i = .int .i64 k ∧ ∃ (cur : Array Value) (L : List Value), Hid (SPart wr wz.heap.size w.heap.size cur (partsOf xss) k L) ∧ Hid (Below wz.heap.size wz wr))
          case atStart => exact ⟨0, by omega, rfl, cur, [], HX, HZ⟩
          case round =>
            clear HX HZ
            obtain ⟨k, hk, rfl, cur, L, HX, HZ⟩ := hrel
            by_cases hlt : k < m
            · have hlt' : (k : Int) < (m : Int) := by omega
              have k0 : (0 : Int) ≤ (k : Int) := by omega
              obtain ⟨r, hr⟩ : ∃ r, (reps xss 256)[k]? = some r := ⟨_, List.getElem?_eq_getElem (by have := HM.out; omega)⟩
              have HPK : Hid ((partsOf xss)[k]? = some (partOf xss r)) := by
                show _ = _
                unfold partsOf
                rw [List.getElem?_map]
                rw [show (List.filter (fun x => isRep xss x) (List.range 256)) = reps xss 256 from rfl, hr]
                rfl
              have ES : Hid (spansOf (partF xss 256 r) = partOf xss r) := spansOf_congr fun y hy => by unfold partF; simp [hy]
              obtain ⟨g6, cc6, e6, hg6, hc6⟩ := own_form H6.out (by omega)
              injection e6 with e61 e62 e63
              subst e61 e63
              have HC := Lib.hid (own_elem (f := partF xss 256) (own_below H6.out HZ.out) hr)
              clear hr
              obtain ⟨wk, hwk⟩ : ∃ x : World, x = wr := ⟨_, rfl⟩
              subst hwk
              go_upto_region 35 with fail
              refine wp_region_lit ?_
              refine ev_move rfl (.tmp 86) rfl _ rfl ?_
              refine ev_index rfl 55 TBits (.tmp 84) (.tmp 86) rfl Try.underlying55 256 sizeBits ⟨g6, 0, none⟩ m c6 k .i64 rfl rfl hlt ?_
              refine ev_load_at rfl TBits (.tmp 89) rfl _ rfl _ HC.out _ uBits rfl (sizeBits' _) ?_
              refine ev_alloc rfl TBits rfl _ infoBits ?_
              rintro _ w4 rfl hB4 hb4
              simp only [Act.put, List.setIfInBounds_toArray, List.set_cons_zero, List.set_cons_succ]
              refine ev_assign rfl (.tmp 88) rfl _ rfl ?_
              refine ev_store rfl rfl TBits (.tmp 17) (.tmp 90) rfl wk.heap.size 0 rfl (bitCells (partF xss 256 r)) rfl _ TBits hB4 (sizeBits' _) (by simp [bitCells_length]) (bitCells_one _) ?_
              intro w5 hs hg
              rw [List.take_zero, List.nil_append, List.drop_of_length_le (by simp [bitCells_length]), List.append_nil] at hs
              have B5 := Lib.hid (hb4.grown hg hb4.size (fun k' hk' => by injection hk' with hk'; omega))
              have HS5 := Lib.hid hs
              clear hs hg hB4 hb4 HC
              simp only [Act.put, List.setIfInBounds_toArray, List.set_cons_zero, List.set_cons_succ]
              go_upto_region 36 with fail
              go_wp2_with (with_reducible refine ev_load (o := ⟨some 93, _, _, _, _, _⟩) rfl TBits _ rfl wk.heap.size rfl (bitCells (partF xss 256 r)) TBits HS5.out _ uBits rfl (sizeBits' _) ?_)
              refine (spans_c (partF xss 256 r) _).mono ?_
              rintro e w6 ⟨v, rfl, ho, b6⟩
              rw [ES.out] at ho
              obtain ⟨A5, c5, rfl, _⟩ := ho.sps
              have HO := Lib.hid (ho.lower B5.out.size)
              have HO' := Lib.hid ho
              have B6 := Lib.hid (below_then B5.out b6)
              have HX2 := Lib.hid (HX.out.blk.below B6.out)
              have hcs := HX.out.size
              obtain ⟨u0, e1⟩ : ∃ u0, w6.cell? ⟨wz.heap.size, k, none⟩ = some u0 := ⟨_, by rw [HX2.out.cell]; exact Array.getElem?_eq_getElem (by have := hPm.out; omega)⟩
              have e2 := HX2.out.free k
              clear ho b6
              go_wp2
              clear e1 e2
              go_roundg (gk - 1)
              case rel =>
                have hs3 := HZ.out.size
                exact ⟨k + 1, by omega, by go_num, _, _, HX.out.snoc HPK.out B6.out HO.out (by omega), below_set (below_then HZ.out B6.out) (Nat.le_refl _) _⟩
              case measure => omega
            · have hk' : k = m := by omega
              go_wp2
              go_ret
              have hd := HX.out.done (hk'.trans hPm.out.symm)
              rw [hPm.out] at hd
              refine ⟨_, _, L, rfl, ?_, fun b hb => HX.out.lo b hb, below_then (below_then HB.out HA.out) HZ.out⟩
              rw [E.out]
              exact hd

end Go.Proofs.Ytplhbjpkkhhilaa

/- The reader of a code: pick, num, l15Open. -/
namespace Go.Proofs.Ytplhbjpkkhhilaa
set_option linter.unusedSimpArgs false
set_option linter.unusedVariables false
open Go.RowKit

abbrev TRd : Nat := 78
structure Rd (w : World) (g : Nat) (p : Nat) : Prop where
  ex : ∃ (A : Option Addr) (c : Nat) (bs : List Int), Blk w g #[.slice A bs.length c, .int .i64 p] TRd ∧ Bys w 0 A c bs ∧ (bs ≠ [] → ∀ a, A = some a → a.block < g) ∧ bs.length ≤ 2000
theorem CellsAt.moved {w w' : World} {a : Addr} {cs : List Value} (h : CellsAt w a cs) (he : w'.heap[a.block]? = w.heap[a.block]?) : CellsAt w' a cs := by
  intro j u hj
  have e : (a.add j).block = a.block := by unfold Addr.add; split <;> rfl
  rw [World.cell?_of_block (w := w) (by rw [e]; exact he)]
  exact h j u hj
theorem Rd.lt {w : World} {g p : Nat} (h : Rd w g p) : g < w.heap.size := by
  obtain ⟨A, c, bs, h1, _⟩ := h.ex
  exact h1.lt
theorem Rd.keep {w w' : World} {g p : Nat} (h : Rd w g p) (hk : ∀ k, k ≤ g → w'.heap[k]? = w.heap[k]?) : Rd w' g p := by
  obtain ⟨A, c, bs, h1, h2, h3, h4⟩ := h.ex
  refine ⟨A, c, bs, ⟨(hk g (Nat.le_refl _)).trans h1.eq⟩, ⟨?_, h2.cap, h2.len, h2.byte⟩, h3, h4⟩
  rcases h2.row with h5 | ⟨a, e, h6, h7⟩
  · exact .inl h5
  · by_cases hb : bs = []
    · exact .inl (by rw [hb]; rfl)
    · exact .inr ⟨a, e, h6, CellsAt.moved h7 (hk _ (Nat.le_of_lt (h3 hb a e)))⟩
theorem Rd.grown {w w' : World} {g p : Nat} (h : Rd w g p) {row : Option Nat} (hg : w.grownBy w' row) (hr : ∀ k, row = some k → g < k) : Rd w' g p :=
  h.keep fun k hk => hg.block k (by have := h.lt; omega) (fun e => by have := hr k e.symm; omega)
theorem Rd.below {w w' : World} {g p : Nat} (h : Rd w g p) (hb : Below w.heap.size w w') : Rd w' g p :=
  h.keep fun k hk => hb.block k (by have := h.lt; omega)
theorem Rd.step {w : World} {g p : Nat} (h : Rd w g p) (q : Nat) : Rd (w.setCell ⟨g, 1, none⟩ (.int .i64 q)) g q := by
  obtain ⟨A, c, bs, h1, h2, h3, h4⟩ := h.ex
  refine ⟨A, c, bs, ?_, ⟨?_, h2.cap, h2.len, h2.byte⟩, h3, h4⟩
  · have := h1.set 1 (.int .i64 q)
    simpa using this
  · rcases h2.row with h5 | ⟨a, e, h6, h7⟩
    · exact .inl h5
    · by_cases hb : bs = []
      · exact .inl (by rw [hb]; rfl)
      · exact .inr ⟨a, e, h6, CellsAt.moved h7 (Below.heap_setCell w _ _ _ (by have := h3 hb a e; show a.block ≠ g; omega))⟩
theorem grown_then {w w1 w2 : World} {row : Option Nat} (h : w.grownBy w1 row) (k : w1.grownBy w2 row) : w.grownBy w2 row :=
  ⟨k.os.trans h.os, k.tape.trans h.tape, k.output.trans h.output, Nat.le_trans h.size k.size, fun i hi hne => (k.block i (Nat.lt_of_lt_of_le hi h.size) hne).trans (h.block i hi hne)⟩
theorem grown_below {w w1 : World} {row : Option Nat} (h : Below w.heap.size w w1) : w.grownBy w1 row :=
  ⟨h.os, h.tape, h.output, h.size, fun i hi _ => h.block i hi⟩

theorem i64_xor {a b : Int} (ha : 0 ≤ a) (ha' : a < 9223372036854775808) (hb : 0 ≤ b) (hb' : b < 9223372036854775808) : ∃ m : Nat, bits .xor .i64 a b = m ∧ m < 9223372036854775808 := by
  obtain ⟨x, rfl⟩ := Int.eq_ofNat_of_zero_le ha
  obtain ⟨y, rfl⟩ := Int.eq_ofNat_of_zero_le hb
  have hx : x ^^^ y < 2 ^ 63 := Nat.xor_lt_two_pow (by omega) (by omega)
  have h1 : (BitVec.ofInt 64 (x : Int)).toNat = x := by
    rw [BitVec.ofInt_natCast, BitVec.toNat_ofNat]; exact Nat.mod_eq_of_lt (by omega)
  have h2 : (BitVec.ofInt 64 (y : Int)).toNat = y := by
    rw [BitVec.ofInt_natCast, BitVec.toNat_ofNat]; exact Nat.mod_eq_of_lt (by omega)
  refine ⟨x ^^^ y, ?_, by omega⟩
  show IntKind.i64.wrap ((BitVec.ofInt 64 (x : Int) ^^^ BitVec.ofInt 64 (y : Int)).toNat : Int) = _
  rw [BitVec.toNat_xor, h1, h2]
  exact IntWalk.i64_in _ (by omega)

theorem Bys.at_ {w : World} {lo : Nat} {A : Option Addr} {c : Nat} {bs : List Int} (h : Bys w lo A c bs) (k : Nat) (hk : k < bs.length) :
    ∃ a z, A = some a ∧ w.cell? (a.add k) = some (.int .u8 z) ∧ 0 ≤ z ∧ z < 256 := by
  rcases h.row with h0 | ⟨a, e, _, hc⟩
  · have := congrArg List.length h0
    simp at this
    subst this
    simp at hk
  · have := h.byte bs[k] (List.getElem_mem hk)
    exact ⟨a, bs[k], e, hc k _ (by simp [hk]), this.1, this.2⟩

theorem tmod_lo {a n : Int} (h : 0 ≤ a) : 0 ≤ a.tmod n := Int.tmod_nonneg n h
theorem tmod_hi {a n : Int} (h : 1 ≤ n) : a.tmod n < n := Int.tmod_lt_of_pos a (by omega)
theorem tmod_nat (a n : Nat) (h : 0 < n) : ∃ k : Nat, (a : Int).tmod (n : Int) = k ∧ k < n := ⟨a % n, by rw [Int.ofNat_tmod], Nat.mod_lt _ h⟩
theorem tdiv_nat (a n : Nat) : ∃ k : Nat, (a : Int).tdiv (n : Int) = k ∧ k ≤ a := ⟨a / n, by rw [Int.ofNat_tdiv], Nat.div_le_self _ _⟩

set_option maxHeartbeats 2000000 in
theorem pick_c (g p : Nat) (n : Int) (w : World) (h : Rd w g p) (hn : 1 ≤ n) (hn2 : n ≤ 1000000) (hp : p ≤ 1000000) :
    Calls Try.prog 41 #[.pointer (some ⟨g, 0, none⟩), .int .i64 n] w fun e w' => ∃ r : Int, e = .returned (.int .i64 r) ∧ 0 ≤ r ∧ r < n ∧ Rd w' g (p + 1) ∧ w.grownBy w' (some g) := by
  obtain ⟨A, c, bs, h1, h2, h3, h4⟩ := h.ex
  have c0 : w.cell? ⟨g, 0, none⟩ = some (.slice A bs.length c) := by rw [h1.cell]; rfl
  have c1 : w.cell? ⟨g, 1, none⟩ = some (.int .i64 p) := by rw [h1.cell]; rfl
  have f1 : w.frozen? ⟨g, 1, none⟩ = false := h1.free 1
  have HR : Hid (Rd (w.setCell ⟨g, 1, none⟩ (.int .i64 ((p : Int) + 1))) g (p + 1)) := h.step (p + 1)
  have HG : Hid (w.grownBy (w.setCell ⟨g, 1, none⟩ (.int .i64 ((p : Int) + 1))) (some g)) := grown_set (grown_refl w _) 1 _
  have HY : Hid (Bys (w.setCell ⟨g, 1, none⟩ (.int .i64 ((p : Int) + 1))) 0 A c bs) := by
    refine ⟨?_, h2.cap, h2.len, h2.byte⟩
    rcases h2.row with h5 | ⟨a, e, h6, h7⟩
    · exact .inl h5
    · by_cases hb : bs = []
      · exact .inl (by rw [hb]; rfl)
      · exact .inr ⟨a, e, h6, CellsAt.moved h7 (Below.heap_setCell w _ _ _ (by have := h3 hb a e; show a.block ≠ g; omega))⟩
  clear h h1 h2 h3
  by_cases hl : bs.length = 0
  · have b0 : ((bs.length : Int) == 0) = true := by simp [hl]
    have HL := Lib.hid hl
    clear hl
    go_enter Try.func41, Try.ntmps41
    go_wp2
    go_ret
    exact ⟨0, rfl, by omega, by omega, HR.out, HG.out⟩
  · have b0 : ((bs.length : Int) == 0) = false := by simp [hl]
    by_cases hk : p < bs.length
    · obtain ⟨a, z, rfl, c2, z0, z1⟩ := HY.out.at_ p hk
      clear hl
      go_enter Try.func41, Try.ntmps41
      go_wp2
      go_ret
      exact ⟨_, rfl, Int.emod_nonneg _ (by omega), Int.emod_lt_of_pos _ (by omega), HR.out, HG.out⟩
    · have hl' : 0 < bs.length := by omega
      obtain ⟨k1, e1, h1⟩ := tmod_nat p bs.length hl'
      obtain ⟨k2, e2, h2⟩ := tmod_nat (p * 7 + 3) bs.length hl'
      rw [show ((p * 7 + 3 : Nat) : Int) = (p : Int) * 7 + 3 by omega] at e2
      obtain ⟨k3, e3, h3⟩ := tdiv_nat p bs.length
      obtain ⟨a, z, rfl, c2, z0, z1⟩ := HY.out.at_ k1 h1
      obtain ⟨a', y, e, c3, y0, y1⟩ := HY.out.at_ k2 h2
      cases e
      have hne : ¬ bs = [] := by rintro rfl; simp at hl'
      have w0 : IntKind.i64.wrap z = z := IntWalk.i64_in _ (by omega)
      have w0' : IntKind.i64.wrap y = y := IntWalk.i64_in _ (by omega)
      have w1 : IntKind.i64.wrap ((p : Int) * 7) = (p : Int) * 7 := IntWalk.i64_in _ (by omega)
      have w2 : IntKind.i64.wrap ((p : Int) * 7 + 3) = (p : Int) * 7 + 3 := IntWalk.i64_in _ (by omega)
      have w3 : IntKind.i64.wrap (z * 131) = z * 131 := IntWalk.i64_in _ (by omega)
      have w4 : IntKind.i64.wrap (y * 1117) = y * 1117 := IntWalk.i64_in _ (by omega)
      have w5 : IntKind.i64.wrap (z * 131 + y * 1117) = z * 131 + y * 1117 := IntWalk.i64_in _ (by omega)
      have w6 : IntKind.i64.wrap ((p : Int) * 29) = (p : Int) * 29 := IntWalk.i64_in _ (by omega)
      have w7 : IntKind.i64.wrap (z * 131 + y * 1117 + (p : Int) * 29) = z * 131 + y * 1117 + (p : Int) * 29 := IntWalk.i64_in _ (by omega)
      have w8 : IntKind.i64.wrap ((k3 : Int) * 53) = (k3 : Int) * 53 := IntWalk.i64_in _ (by omega)
      have w9 : IntKind.i64.wrap (z * 131 + y * 1117 + (p : Int) * 29 + (k3 : Int) * 53) = z * 131 + y * 1117 + (p : Int) * 29 + (k3 : Int) * 53 := IntWalk.i64_in _ (by omega)
      obtain ⟨X, hX⟩ : ∃ X, X = z * 131 + y * 1117 + (p : Int) * 29 + (k3 : Int) * 53 := ⟨_, rfl⟩
      rw [← hX] at w9
      have hX0 : 0 ≤ X := by omega
      have hX1 : X < 100000000 := by omega
      have HX := Lib.hid hX
      clear hX hl
      go_enter Try.func41, Try.ntmps41
      go_wp2
      go_quiet (fail)
      clear w0 w0' w1 w2 w3 w4 w5 w6 w7 w8 w9 e1 e2 e3 c2 c3
      rw [← HX.out]
      have q0 : 0 ≤ X / 64 := by omega
      have q1 : X / 64 < 9223372036854775808 := by omega
      obtain ⟨m, hm, hm1⟩ := i64_xor hX0 (by omega) q0 q1
      clear q0 q1
      go_wp2
      go_ret
      exact ⟨_, rfl, Int.emod_nonneg _ (by omega), Int.emod_lt_of_pos _ (by omega), HR.out.below (below_drewN (Below.refl _ _) _), grown_then HG.out (grown_below (below_drewN (Below.refl _ _) _))⟩

theorem num_c (g p b c : Nat) (zs : List Int) (lo hi : Int) (w : World) (h : Rd w g p) (hc : CellsAt w ⟨b, 0, none⟩ (zs.map fun z => .int .i64 z)) (hbg : b ≠ g) (hb : b < w.heap.size) (hz : ∀ z ∈ zs, lo ≤ z ∧ z ≤ hi) (hl : 0 < zs.length) (hl2 : zs.length ≤ 1000000) (hp : p ≤ 1000000) :
    Calls Try.prog 58 #[.pointer (some ⟨g, 0, none⟩), .slice (some ⟨b, 0, none⟩) zs.length c] w fun e w' => ∃ r : Int, e = .returned (.int .i64 r) ∧ lo ≤ r ∧ r ≤ hi ∧ Rd w' g (p + 1) ∧ w.grownBy w' (some g) := by
  go_enter Try.func58, Try.ntmps58
  go_wp2_with fail
  refine (pick_c g p _ _ h (by omega) (by omega) hp).mono ?_
  rintro e w1 ⟨r, rfl, r0, r1, HR, HG⟩
  obtain ⟨k, rfl⟩ := Int.eq_ofNat_of_zero_le r0
  have hk : k < zs.length := by omega
  have c1 : w1.cell? ⟨b, k, none⟩ = some (.int .i64 zs[k]) := by
    have e0 : (⟨b, 0, none⟩ : Addr).add k = ⟨b, k, none⟩ := by unfold Addr.add; split <;> simp_all
    rw [World.cell?_of_block (w := w) (HG.block b hb (by simpa using hbg)), ← e0]
    exact hc k _ (by simp [hk])
  have hzk := hz zs[k] (List.getElem_mem hk)
  have hR := Lib.hid HR
  have hG := Lib.hid HG
  obtain ⟨z, hz1⟩ : ∃ z, zs[k] = z := ⟨_, rfl⟩
  rw [hz1] at c1 hzk
  clear HR HG hz hz1
  go_wp2
  go_ret
  exact ⟨z, rfl, hzk.1, hzk.2, hR.out, hG.out⟩

theorem open_c (A : Option Addr) (c : Nat) (bs : List Int) (w : World) (h : Bys w 0 A c bs) :
    Calls Try.prog 40 #[.slice A bs.length c] w fun e w' => ∃ g, e = .returned (.pointer (some ⟨g, 0, none⟩)) ∧ Rd w' g 0 ∧ w.heap.size ≤ g ∧ Below w.heap.size w w' := by
  have hlt : bs ≠ [] → ∀ a, A = some a → a.block < w.heap.size := by
    intro hb a e
    subst e
    obtain ⟨a', z, e, h1, _⟩ := h.at_ 0 (List.length_pos_iff.2 hb)
    cases e
    have := World.block_lt_of_cell? w _ h1
    simpa [Addr.add] using this
  have hcap := h.cap
  have hlen := h.len
  unfold maxN at hlen
  by_cases hl : (2000 : Int) < bs.length
  · have e1 : (bs.take 2000).length = 2000 := by rw [List.length_take]; omega
    have HT : Hid (Bys w 0 A c (bs.take 2000)) := by
      refine ⟨?_, by omega, by rw [e1]; unfold maxN; omega, fun z hz => h.byte z (List.mem_of_mem_take hz)⟩
      rcases h.row with h5 | ⟨a, e, h6, h7⟩
      · exact .inl (by rw [List.map_eq_nil_iff] at h5; subst h5; simp)
      · refine .inr ⟨a, e, h6, fun j u hj => h7 j u ?_⟩
        rw [List.map_take, List.getElem?_take] at hj
        split at hj
        · exact hj
        · cases hj
    have HB := Lib.hid (blk_new w #[.slice A 2000 c, .int .i64 0] TRd)
    have HL := Lib.hid hlt
    have E1 := Lib.hid e1
    have hA : ∃ a, A = some a := by
      obtain ⟨a', _, e, _⟩ := h.at_ 0 (by omega)
      exact ⟨a', e⟩
    obtain ⟨a, rfl⟩ := hA
    have HN : Hid (bs ≠ []) := by rintro rfl; simp at hl
    clear hlt h e1
    go_enter Try.func40, Try.ntmps40
    go_wp2
    go_ret
    refine ⟨w.heap.size, rfl, ⟨some a, c, bs.take 2000, ?_, HT.out.below (below_alloc (Below.refl _ _) _), fun _ a' e => HL.out HN.out a' e, by rw [E1.out]; exact Nat.le_refl _⟩, Nat.le_refl _, below_alloc (Below.refl _ _) _⟩
    rw [E1.out]
    exact HB.out
  · have HB := Lib.hid (blk_new w #[.slice A bs.length c, .int .i64 0] TRd)
    have HL := Lib.hid hlt
    have HH := Lib.hid h
    clear hlt h
    go_enter Try.func40, Try.ntmps40
    go_wp2
    go_ret
    exact ⟨w.heap.size, rfl, ⟨A, c, bs, HB.out, HH.out.below (below_alloc (Below.refl _ _) _), fun hb a e => HL.out hb a e, by omega⟩, Nat.le_refl _, below_alloc (Below.refl _ _) _⟩

theorem min_c (a b : Int) (w : World) :
    Calls Try.prog 71 #[.int .i64 a, .int .i64 b] w fun e w' => e = .returned (.int .i64 (if a < b then a else b)) ∧ w = w' := by
  go_enter Try.func71, Try.ntmps71
  by_cases h : a < b
  · rw [if_pos h]
    go_wp2
    go_ret
    exact ⟨rfl, rfl⟩
  · rw [if_neg h]
    go_wp2
    go_ret
    exact ⟨rfl, rfl⟩

end Go.Proofs.Ytplhbjpkkhhilaa

/- What draws a set: l1Set. -/
namespace Go.Proofs.Ytplhbjpkkhhilaa
set_option linter.unusedSimpArgs false
set_option linter.unusedVariables false
open Go.RowKit

theorem ints_new (w : World) (zs : List Int) (t : TypeId) : CellsAt (w.alloc (.cells (zs.map fun z => Value.int .i64 z).toArray t)) ⟨w.heap.size, 0, none⟩ (zs.map fun z => .int .i64 z) := new_cells w _ t
def L9 : List Int := [0, 48, 97, 97, 98, 99, 120, 254, 255]
def L7 : List Int := [0, 0, 1, 2, 9, 25, 200]

theorem grown_fresh {w w1 : World} {row : Option Nat} (h : w.grownBy w1 row) {b : Nat} (hb : w.heap.size ≤ b) (o : Nat) (u : Value) : w.grownBy (w1.setCell ⟨b, o, none⟩ u) row :=
  ⟨h.os, h.tape, h.output, by rw [World.size_setCell]; exact h.size, fun k hk hne => (Below.heap_setCell w1 ⟨b, o, none⟩ u k (by show k ≠ b; omega)).trans (h.block k hk hne)⟩

set_option maxRecDepth 100000 in
set_option maxHeartbeats 2000000 in
theorem l1Set_c (g p : Nat) (w : World) (h : Rd w g p) (hp : p ≤ 900000) :
    Calls Try.prog 42 #[.pointer (some ⟨g, 0, none⟩)] w fun e w' => ∃ f v q, e = .returned v ∧ OwnSp w' w.heap.size v (spansOf f) ∧ (∃ k, k < 256 ∧ f k = true) ∧ Rd w' g q ∧ q ≤ p + 10 ∧ w.grownBy w' (some g) := by
  obtain ⟨i0, hi, hz0, hz1, hz2⟩ := info_parts infoBool
  have hgw := h.lt
  go_enter Try.func42, Try.ntmps42
  go_wp2_with (at_make; refine wpList_make_full _ rfl _ _ 79 rfl w.heap.size TB i0 (.bool false) 1 Try.underlying79 hi hz0 hz1 .i64 .i64 _ _ 256 rfl rfl rfl rfl (by rw [hz2]; omega) (by unfold maxLen; omega) (Nat.le_refl _) ?_; intro w1 hown hgrow; have HX1 := Lib.hid (own_bits hown); have HR1 := Lib.hid (h.grown hgrow (fun k hk => by cases hk)); have HB1 := Lib.hid ((Below.refl _ w).grown hgrow (Nat.le_refl _) (fun k hk => by cases hk)); clear hown hgrow hi hz0 hz1 hz2 h; skip)
  refine (pick_c g p 3 _ HR1.out (by omega) (by omega) (by omega)).mono ?_
  rintro e w2 ⟨r, rfl, r0, r1, HR, HG⟩
  have HX := Lib.hid (HX1.out.grown HG (fun k hk => by injection hk with hk; omega))
  replace HR := Lib.hid HR
  replace HG := Lib.hid (grown_then (grown_below HB1.out) HG)
  obtain ⟨m, rfl⟩ := Int.eq_ofNat_of_zero_le r0
  clear HX1 HR1 HB1
  go_wp2
  go_loopg [4] (m + 1) (fun n i wr => i = .int .i64 n ∧ Hid (n ≤ m + 1) ∧ ∃ (f : Nat → Bool) (q : Nat), Hid (Blk wr w.heap.size (bitCells f).toArray TB) ∧ Hid (Rd wr g q) ∧ Hid (q + 2 * n ≤ p + 7) ∧ Hid (n = m + 1 ∨ ∃ k, k < 256 ∧ f k = true) ∧ Hid (w.grownBy wr (some g)))
  case atStart => exact ⟨by go_num, Nat.le_refl _, _, p + 1, HX, HR, by show _ ≤ _; omega, .inl rfl, HG⟩
  case round =>
    clear HX HR HG
    obtain ⟨rfl, hn, f, q, HX, HR, HQ, HE, HG⟩ := hrel
    by_cases hpos : 0 < gk
    · obtain ⟨gn, rfl⟩ : ∃ x, gk = x + 1 := ⟨gk - 1, by omega⟩
      have hgk : gn + 1 ≤ 3 := by have := hn.out; omega
      have hq0 : q ≤ 900010 := by have := HQ.out; omega
      have hl9 : L9.length = 9 := rfl
      go_wp2_with fail
      refine (num_c g q wr.heap.size 9 L9 0 255 _ (HR.out.below (below_alloc (Below.refl _ _) _)) (ints_new wr L9 _) (by have := HR.out.lt; omega) (by simp) (by decide) (by decide) (by decide) (by omega)).mono ?_
      rintro e w3 ⟨a, rfl, a0, a1, HR3, HG3⟩
      have HX3 := Lib.hid ((HX.out.alloc _).grown HG3 (fun k hk => by injection hk with hk; omega))
      have HT3 := Lib.hid (grown_then HG.out (grown_then (grown_below (below_alloc (Below.refl _ _) _)) HG3))
      replace HR3 := Lib.hid HR3
      clear HX HR HG HG3
      go_wp2_with fail
      refine (num_c g (q + 1) w3.heap.size 7 L7 0 200 _ (HR3.out.below (below_alloc (Below.refl _ _) _)) (ints_new w3 L7 _) (by have := HR3.out.lt; omega) (by simp) (by decide) (by decide) (by decide) (by omega)).mono ?_
      rintro e w4 ⟨r2, rfl, b0, b1, HR4, HG4⟩
      have HX4 := Lib.hid ((HX3.out.alloc _).grown HG4 (fun k hk => by injection hk with hk; omega))
      have HT4 := Lib.hid (grown_then HT3.out (grown_then (grown_below (below_alloc (Below.refl _ _) _)) HG4))
      replace HR4 := Lib.hid HR4
      clear HX3 HR3 HT3 HG4
      go_wp2_with fail
      refine (min_c _ _ _).mono ?_
      rintro e w5 ⟨rfl, rfl⟩
      obtain ⟨b, hb⟩ : ∃ b, b = (if (255 : Int) < a + r2 then 255 else a + r2) := ⟨_, rfl⟩
      rw [← hb]
      have hab : a ≤ b ∧ b ≤ 255 := by rw [hb]; split <;> omega
      clear hb
      obtain ⟨an, rfl⟩ := Int.eq_ofNat_of_zero_le a0
      obtain ⟨bn, rfl⟩ := Int.eq_ofNat_of_zero_le (show 0 ≤ b by omega)
      have hab1 : an ≤ bn := by omega
      have hab2 : bn ≤ 255 := by omega
      clear hab a0 a1 b0 b1
      go_wp2
      go_loopg [7] (bn + 1 - an) (fun n i wr => ∃ kk : Nat, i = .int .i64 kk ∧ kk + n = bn + 1 ∧ ∃ (f : Nat → Bool), Hid (Blk wr w.heap.size (bitCells f).toArray TB) ∧ Hid (Rd wr g (q + 2)) ∧ Hid (kk = an ∨ ∃ k, k < 256 ∧ f k = true) ∧ Hid (w.grownBy wr (some g)))
      case atStart => exact ⟨an, rfl, by omega, _, HX4, HR4, .inl rfl, HT4⟩
      case round =>
        clear HX4 HR4 HT4
        obtain ⟨kk, rfl, hkk, f', HX, HR, HE', HG⟩ := hrel
        by_cases hk : kk ≤ bn
        · have c0 := bitr_cell HX.out kk (by omega)
          have f0 := HX.out.free kk
          go_wp2
          go_roundg (gk - 1)
          case rel => exact ⟨kk + 1, by go_num, by omega, _, bitr_set HX.out kk _, HR.out.grown (grown_set (grown_refl _ _) _ _) (fun k hk => by injection hk with hk; omega), .inr ⟨kk, by omega, by simp⟩, grown_fresh HG.out (Nat.le_refl _) _ _⟩
          case measure => omega
        · go_wp2
          go_roundg gn
          case rel => exact ⟨by go_num, by have := hn.out; show _ ≤ _; omega, f', q + 2, HX, HR, by have := HQ.out; show _ ≤ _; omega, .inr (HE'.out.resolve_left (by omega)), HG⟩
          case measure => omega
    · go_wp2_with fail
      refine (sl1Of_c f _ _ HX.out).mono ?_
      rintro e w9 ⟨v9, rfl, o9, b9⟩
      go_wp2
      go_ret
      exact ⟨f, v9, q, rfl, o9.lower HG.out.size, HE.out.resolve_left (by omega), HR.out.below b9, by have := HQ.out; omega, grown_then HG.out (grown_below b9)⟩

end Go.Proofs.Ytplhbjpkkhhilaa

/- What draws sets: l1Bent, l1Two. -/
namespace Go.Proofs.Ytplhbjpkkhhilaa
set_option linter.unusedSimpArgs false
set_option linter.unusedVariables false
open Go.RowKit

theorem spcs_set_lo (xs : List Sp) (k : Nat) (x : Sp) (a : Int) (hx : xs[k]? = some x) : (spcs xs).set (k * 2) (.int .i64 a) = spcs (xs.set k ⟨a, x.hi⟩) := by
  have hk := (List.getElem?_eq_some_iff.1 hx).1
  have hg := (spcs_get xs k hk).2
  have e1 : xs.getD k default = x := by simp [List.getD_eq_getElem?_getD, hx]
  rw [e1] at hg
  rw [← spcs_set xs k a x.hi]
  apply List.ext_getElem?
  intro j
  rw [List.getElem?_set (l := (spcs xs).set (k * 2) _)]
  split
  · rename_i e; subst e
    rw [List.getElem?_set, if_neg (by omega), hg]
    rw [if_pos (by rw [List.length_set]; exact (List.getElem?_eq_some_iff.1 hg).1)]
  · rfl
theorem OwnSp.setLo {w : World} {base g n cap : Nat} {xs : List Sp} (h : OwnSp w base (.slice (some ⟨g, 0, none⟩) n cap) xs) (k : Nat) (x : Sp) (hx : xs[k]? = some x) (a : Int) :
    OwnSp (w.setCell ⟨g, k * 2, none⟩ (.int .i64 a)) base (.slice (some ⟨g, 0, none⟩) n cap) (xs.set k ⟨a, x.hi⟩) := by
  obtain ⟨h1, h2⟩ := h
  have hn : n = xs.length := by
    rcases h1.2 with ⟨h0, _⟩ | ⟨g', cap', cur, h0, _⟩
    · simp at h0
    · simp at h0; exact h0.2.1
  subst hn
  have s1 := (h1.stored (k * 2) (.int .i64 a)).1
  rw [spcs_set_lo xs k x a hx] at s1
  exact ⟨by rw [List.length_set]; exact s1, by rw [List.length_set]; exact h2⟩
theorem OwnSp.grown {w w1 : World} {base : Nat} {v : Value} {xs : List Sp} (h : OwnSp w base v xs) {row : Option Nat} (hg : w.grownBy w1 row) (hr : ∀ k, row = some k → k < base) : OwnSp w1 base v xs :=
  h.moved fun k hk => hg.block k (own_base h.own k hk).2 (fun e => by have := hr k e.symm; have := (own_base h.own k hk).1; omega)
theorem grown_row {w w1 w2 : World} {r row : Option Nat} (h : w.grownBy w1 r) (k : w1.grownBy w2 row) (hr : ∀ q, row = some q → w.heap.size ≤ q) : w.grownBy w2 r :=
  ⟨k.os.trans h.os, k.tape.trans h.tape, k.output.trans h.output, Nat.le_trans h.size k.size, fun i hi hne => (k.block i (Nat.lt_of_lt_of_le hi h.size) (fun e => by have := hr i e.symm; omega)).trans (h.block i hi hne)⟩
theorem spansOf_pos {f : Nat → Bool} (h : ∃ k, k < 256 ∧ f k = true) : 0 < (spansOf f).length := by
  obtain ⟨k, hk, hf⟩ := h
  rcases Nat.eq_zero_or_pos (spansOf f).length with h0 | h0
  · have e : spansOf f = [] := List.length_eq_zero_iff.1 h0
    have := setHas_spans_nat f k hk
    rw [e, hf] at this
    cases this
  · exact h0
theorem OwnSp.some {w : World} {base : Nat} {v : Value} {xs : List Sp} (h : OwnSp w base v xs) (hn : 0 < xs.length) : ∃ b cap, v = .slice (some ⟨b, 0, none⟩) xs.length cap := by
  obtain ⟨g, cap, e, _⟩ := own_form h.own hn
  exact ⟨g, cap, e⟩
def L2 : List Int := [-1, 300]

set_option maxRecDepth 100000 in
set_option maxHeartbeats 4000000 in
theorem l1Bent_c (g p : Nat) (w : World) (h : Rd w g p) (hp : p ≤ 800000) :
    Calls Try.prog 43 #[.pointer (some ⟨g, 0, none⟩)] w fun e w' => ∃ xs v q, e = .returned v ∧ OwnSp w' w.heap.size v xs ∧ (∃ b cap, v = .slice (some ⟨b, 0, none⟩) xs.length cap) ∧ xs.length ≤ 300 ∧ Rd w' g q ∧ q ≤ p + 20 ∧ w.grownBy w' (some g) := by
  obtain ⟨i0, hi, hz0, hz1, hz2⟩ := info_parts infoSp
  have hgw := h.lt
  go_enter Try.func43, Try.ntmps43
  go_wp2_with fail
  refine (l1Set_c g p _ h (by omega)).mono ?_
  rintro e w1 ⟨f, v, q, rfl, HO, hf, HR, hq, HG⟩
  have hl := spansOf_pos hf
  have hl2 := spansOf_len f
  clear h hf
  replace HG := Lib.hid HG
  go_wp2_with fail
  refine (pick_c g q 40 _ HR (by omega) (by omega) (by omega)).mono ?_
  rintro e w2 ⟨r, rfl, r0, r1, HR2, HG2⟩
  replace HO := Lib.hid (HO.grown HG2 (fun k hk => by injection hk with hk; omega))
  replace HG := Lib.hid (grown_then HG.out HG2)
  replace HR := Lib.hid HR2
  clear HG2 HR2
  obtain ⟨b, cap, rfl, hb, _⟩ := own_form HO.out.own hl
  by_cases c0 : r = 0
  · subst c0
    go_wp2
    go_ret
    exact ⟨[], _, q + 1, rfl, (own_empty w2).lower HG.out.size, ⟨_, _, rfl⟩, by simp, HR.out.below (below_alloc (Below.refl _ _) _), by omega, grown_then HG.out (grown_below (below_alloc (Below.refl _ _) _))⟩
  have d0 : (r == 0) = false := by simp [c0]
  by_cases c1 : r = 1
  · subst c1
    obtain ⟨x, HX, m0, m1, f0, f1⟩ := HO.out.cells 0 hl
    go_wp2_with fail
    refine (num_c g (q + 1) w2.heap.size 2 L2 (-1) 300 _ (HR.out.below (below_alloc (Below.refl _ _) _)) (ints_new w2 L2 _) (by have := HR.out.lt; omega) (by simp) (by decide) (by decide) (by decide) (by omega)).mono ?_
    rintro e w3 ⟨z, rfl, z0, z1, HR3, HG3⟩
    have HO3 := Lib.hid ((HO.out.below (below_alloc (Below.refl _ _) _)).grown HG3 (fun k hk => by injection hk with hk; omega))
    have HT := Lib.hid (grown_then HG.out (grown_then (grown_below (below_alloc (Below.refl _ _) _)) HG3))
    replace HR3 := Lib.hid HR3
    clear HX m0 m1 f0 f1 HG3 HG HO HR
    obtain ⟨x, HX, m0, m1, f0, f1⟩ := HO3.out.cells 0 hl
    go_wp2
    go_ret
    exact ⟨_, .slice (some ⟨b, 0, none⟩) (spansOf f).length cap, q + 2, rfl, HO3.out.setLo 0 x HX.out z, ⟨b, cap, by rw [List.length_set]⟩, by rw [List.length_set]; omega, HR3.out.grown (grown_set (grown_refl _ _) _ _) (fun k hk => by injection hk with hk; omega), by omega, grown_fresh HT.out hb _ _⟩
  have d1 : (r == 1) = false := by simp [c1]
  by_cases c2 : r = 2
  · subst c2
    obtain ⟨x, HX, m0, m1, f0, f1⟩ := HO.out.cells 0 hl
    have HOw := HO
    have HRw := HR
    have HGw := HG
    have hsz := HG.out.size
    go_wp2_with (at_builtin; refine wpList_append_own _ rfl (.tmp 21) (.tmp 25) 27 rfl w.heap.size TSp i0 (.agg #[.int .i64 0, .int .i64 0]) 2 16 Try.underlying27 hi hz0 hz1 hz2 rfl (by decide) _ _ _ rfl (HOw.out.own.alloc _) ⟨_, 0, none⟩ 1 1 [.int .i64 x.lo, .int .i64 x.hi] rfl rfl (new_cells _ [.int .i64 x.lo, .int .i64 x.hi] TSp) (two_one _ _) (by unfold maxLen; omega) (by omega) (by simp; omega) ?_; intro v' w5 hown' hgrow _)
    have hbs := own_base HOw.out.own
    go_wp2
    go_ret
    exact ⟨_, _, q + 1, rfl, OwnSp.snoc hown', (OwnSp.snoc hown').some (by simp), by rw [List.length_append, List.length_singleton]; omega, (HRw.out.below (below_alloc (Below.refl _ _) _)).grown hgrow (fun k hk => by have := (hbs k hk).1; omega), by omega, grown_row (grown_then HGw.out (grown_below (below_alloc (Below.refl _ _) _))) hgrow (fun k hk => (hbs k hk).1)⟩
  have d2 : (r == 2) = false := by simp [c2]
  obtain ⟨x, HX, m0, m1, f0, f1⟩ := HO.out.cells ((spansOf f).length - 1) (by omega)
  have hh := spansTo_hi (f := f) (n := 256) (by omega) hl HX.out
  have hx0 : 0 ≤ x.hi := hh.1
  have hx1 : x.hi ≤ 255 := hh.2.1
  clear hh
  by_cases c3 : r = 3
  · subst c3
    go_wp2
    go_ret
    exact ⟨_, .slice (some ⟨b, 0, none⟩) (spansOf f).length cap, q + 1, rfl, HO.out.setHi _ x HX.out 256, ⟨b, cap, by rw [List.length_set]⟩, by rw [List.length_set]; omega, HR.out.grown (grown_set (grown_refl _ _) _ _) (fun k hk => by injection hk with hk; omega), by omega, grown_fresh HG.out hb _ _⟩
  have d3 : (r == 3) = false := by simp [c3]
  by_cases c4 : r = 4
  · subst c4
    have HOw := HO
    have HRw := HR
    have HGw := HG
    have hsz := HG.out.size
    have e1 : IntKind.i64.wrap (((spansOf f).length : Int) - 1) = ((spansOf f).length : Int) - 1 := IntWalk.i64_in _ (by omega)
    have e2 : (0 : Int) ≤ ((spansOf f).length : Int) - 1 := by omega
    have e3 : ((spansOf f).length : Int) - 1 < ((spansOf f).length : Int) := by omega
    have e4 : (((spansOf f).length : Int) - 1).toNat = (spansOf f).length - 1 := by omega
    have e5 : IntKind.i64.wrap (x.hi + 1) = x.hi + 1 := IntWalk.i64_in _ (by omega)
    have e6 : (1 : Int) ≤ ((spansOf f).length : Int) := by omega
    go_wp2
    go_region_law (refine step_append_lies _ rfl (.tmp 37) (.tmp 55) 27 rfl w.heap.size TSp i0 (.agg #[.int .i64 0, .int .i64 0]) 2 16 Try.underlying27 hi hz0 hz1 hz2 rfl (by decide) _ _ _ rfl ((HOw.out.below (below_alloc (below_drew (Below.refl _ _)) _)).own) ⟨_, 0, none⟩ 1 1 [.int .i64 (x.hi + 1), .int .i64 (x.hi + 1)] rfl rfl (new_cells _ [.int .i64 (x.hi + 1), .int .i64 (x.hi + 1)] TSp) (two_one _ _) (by decide) (by unfold maxLen; omega) (by omega) (by simp; omega) _ rfl ?_; intro g5 cap5 w5 hown' hgrow hat' hlt')
    all_goals
      have hbs := own_base HOw.out.own
      go_wp2
      go_ret
      exact ⟨_, _, q + 1, rfl, OwnSp.snoc hown', (OwnSp.snoc hown').some (by simp), by rw [List.length_append, List.length_singleton]; omega, (HRw.out.below (below_alloc (below_drew (Below.refl _ _)) _)).grown hgrow (fun k hk => by have := (hbs k hk).1; omega), by omega, grown_row (grown_then HGw.out (grown_below (below_alloc (below_drew (Below.refl _ _)) _))) hgrow (fun k hk => (hbs k hk).1)⟩
  · have d4 : (r == 4) = false := by simp [c4]
    go_wp2
    go_ret
    exact ⟨_, _, q + 1, rfl, HO.out, ⟨b, cap, rfl⟩, by omega, HR.out, by omega, HG.out⟩

end Go.Proofs.Ytplhbjpkkhhilaa
