/- The law FnSetParts: partitions are exact and minimal. -/
import Derived.Test.YtplhbjpkkhhilaaG9
import Derived.Test.YtplhbjpkkhhilaaG8
import Derived.Test.YtplhbjpkkhhilaaG6
import Derived.Deep.RegionHeld3
namespace Go.Proofs.Ytplhbjpkkhhilaa
set_option linter.unusedSimpArgs false
set_option linter.unusedVariables false
open Go.RowKit

theorem SSV.get {w : World} {lo : Nat} {a : Addr} {ck : Nat} {xss : List (List Sp)} (h : SSV w lo (some a) ck xss) {i : Nat} {xs : List Sp} (hi : xss[i]? = some xs) : ∃ A c, Sps w lo A c xs ∧ w.cell? (a.add i) = some (.slice A xs.length c) := by
  obtain ⟨a', A, c, e, _, hc, hs⟩ := h.ex i xs hi
  injection e with e
  subst e
  exact ⟨A, c, hs, hc⟩

set_option maxRecDepth 100000 in
set_option maxHeartbeats 8000000 in
theorem lawFnSetParts_c (A0 : Option Addr) (c0 : Nat) (bs0 : List Int) (w : World) (h0 : Bys w 0 A0 c0 bs0) :
    Calls Try.prog 3 #[.slice A0 bs0.length c0] w fun e w' => e = .returned (.bool true) ∧ Below w.heap.size w w' := by
  have hl0 := h0.len
  unfold maxN at hl0
  go_enter Try.func3, Try.ntmps3
  by_cases hb0 : (1048576 : Int) < bs0.length
  · go_wp2
    go_ret
    exact ⟨rfl, Below.refl _ _⟩
  clear hl0
  go_wp2_with fail
  refine (drawSetParts_c _ _ _ _ h0).mono ?_
  rintro e w1 ⟨K, ck, xss, rfl, hs, hx, b1⟩
  have HL := Lib.hid hs
  have B := Lib.hid b1
  clear hb0 h0 hs b1
  obtain ⟨T, hT⟩ : ∃ T, T = setParts xss := ⟨_, rfl⟩
  have HTT := Lib.hid hT
  clear hT
  go_wp2_with fail
  refine (iSetParts_c xss K ck w1 HL.out (by omega)).mono ?_
  rintro e w2 ⟨vG, fpG, LG, rfl, ho, hf, b2⟩
  rw [← HTT.out] at ho
  obtain ⟨KP, kP, rfl, hp⟩ := ho.ssv
  replace HL := Lib.hid (HL.out.below b2)
  have HP := Lib.hid hp
  replace B := Lib.hid (below_then B.out b2)
  clear ho hf hp b2
  go_wp2_with fail
  refine (sSetParts_c xss K ck w2 HL.out).mono ?_
  rintro e w3 ⟨KW, kW, he, hw, b3⟩
  rw [← HTT.out] at he hw
  subst he
  replace HL := Lib.hid (HL.out.below b3)
  replace HP := Lib.hid (HP.out.below b3)
  have HW := Lib.hid hw
  replace B := Lib.hid (below_then B.out b3)
  clear hw b3
  by_cases ht : T.length = 0
  · have d0 : ((T.length : Int) == 0) = true := by simp [ht]
    clear ht
    go_wp2
    go_ret
    exact ⟨rfl, B.out⟩
  have d0 : ((T.length : Int) == 0) = false := by simp [ht]
  have hpos : 0 < T.length := by omega
  have HTP : Hid (T = partsOf xss ∧ ∀ s ∈ xss, setOk s = true) := by
    have h1 := HTT.out
    unfold setParts at h1
    split at h1
    · rename_i h2
      exact ⟨h1, fun s hs => List.all_eq_true.1 h2 s hs⟩
    · subst h1
      simp at ht
  have hTl : T.length ≤ 256 := by
    rw [HTP.out.1]
    unfold partsOf
    rw [List.length_map]
    exact reps_len xss 256
  obtain ⟨aP, _, _, _, rfl, _⟩ := HP.out.at_ 0 hpos
  obtain ⟨aW, _, _, _, rfl, _⟩ := HW.out.at_ 0 hpos
  have HZ : Hid (0 = sumS (T.take 0)) := by show _ = _; rw [List.take_zero, sumS]
  clear ht HTT
  go_wp2_with fail
  clear d0
  go_loopg [6, 7] T.length (fun n v6 v7 wr => ∃ i : Nat, i + n = T.length ∧ v7 = .int .i64 i ∧ (∃ p : Nat, v6 = .int .i64 p ∧ Hid (p = sumS (T.take i))) ∧ Hid (Below w3.heap.size w3 wr))
  case atStart => exact ⟨0, by omega, rfl, ⟨0, rfl, HZ⟩, Below.refl _ _⟩
  case round =>
    clear HZ
    obtain ⟨i, hi, rfl, ⟨p, rfl, HS⟩, HB⟩ := hrel
    by_cases hlt : i < T.length
    · have hlt' : (i : Int) < (T.length : Int) := by omega
      have i0 : (0 : Int) ≤ (i : Int) := by omega
      obtain ⟨gO, rfl⟩ : ∃ x, x = gk := ⟨_, rfl⟩
      obtain ⟨P, hP⟩ : ∃ P, T[i]? = some P := ⟨_, List.getElem?_eq_getElem hlt⟩
      have HPi := Lib.hid hP
      rw [HTP.out.1] at hP
      obtain ⟨r, hr, hPr⟩ := part_get hP
      have HR := Lib.hid hr
      have HPR := Lib.hid hPr
      have hr2 : r < 256 := reps_lt (List.mem_of_getElem? hr)
      have HF : Hid (setFirst P = (r : Int)) := by show _ = _; rw [HPR.out]; exact part_first hr2 (reps_rep (List.mem_of_getElem? HR.out))
      have hpp : 0 < P.length := by rw [HPR.out]; exact part_pos xss hr2
      have dP : ((P.length : Int) == 0) = false := by simp; intro h; rw [h] at hpp; simp at hpp
      clear hP hr hPr
      obtain ⟨AP, cP, sP, nP⟩ := HP.out.get HPi.out
      obtain ⟨AW, cW, sW, nW⟩ := HW.out.get HPi.out
      have SP := Lib.hid sP
      have SW := Lib.hid sW
      have NP := Lib.hid nP
      have NW := Lib.hid nW
      clear sP sW nP nW
      obtain ⟨wi, hwi⟩ : ∃ x : World, x = wr := ⟨_, rfl⟩
      subst hwi
      have C1 : Hid (∀ x : BW wi, Calls Try.prog 14 #[.slice AP P.length cP, .slice AW P.length cW] x.w1 fun e w'' => e = .returned (.bool true) ∧ ∃ y : BW wi, w'' = y.w1) := fun x => Calls.bw_d (bv (decide_eq_true rfl)) (iSetSame_c AP AW cP cW P P x.w1 ((SP.out.below HB.out).below (BW.up x)) ((SW.out.below HB.out).below (BW.up x)))
      have C2 : Hid (∀ x : BW wi, Calls Try.prog 15 #[.slice AP P.length cP] x.w1 fun e w'' => e = .returned (.int .i64 r) ∧ ∃ y : BW wi, w'' = y.w1) := fun x => Calls.bw (iv HF.out) (iSetFirst_c AP cP P x.w1 ((SP.out.below HB.out).below (BW.up x)))
      have N1 : ∀ x : BW wi, x.w1.cell? (aP.add i) = some (.slice AP P.length cP) := fun x => x.cell ((HB.out.cell (World.block_lt_of_cell? w3 _ NP.out)).trans NP.out)
      have N2 : ∀ x : BW wi, x.w1.cell? (aW.add i) = some (.slice AW P.length cW) := fun x => x.cell ((HB.out.cell (World.block_lt_of_cell? w3 _ NW.out)).trans NW.out)
      go_upto_region 14 with fail
      go_cut [71] (fun s71 wx => s71 = .bool false ∧ Hid (Below wi.heap.size wi wx))
      case first =>
        by_cases hi0 : i = 0
        · have g0 : decide ((0 : Int) < (i : Int)) = false := by simp; omega
          have g1 : (i : Int) ≤ 0 := by omega
          have g2 : decide (0 < i) = false := by simp; omega
          have g3 : ¬ 0 < i := by omega
          clear hi0
          go_wp2_with fail
          refine wp_region_bw (by kernel_rfl) (by kernel_rfl) ?_
          repeat (go_big_quiet_step ((go_at_call 14; with_reducible exact C1.out _)))
          refine wpQuiet_nil ?_
          rintro w4 ⟨x1, y1⟩
          have b1 : Below wi.heap.size wi w4 := y1 ▸ x1.up
          clear y1 x1 N1 N2
          go_wp2_with fail
          go_meet
          exact ⟨rfl, b1⟩
        · have g0 : decide ((0 : Int) < (i : Int)) = true := by simp; omega
          have g1 : (0 : Int) < (i : Int) := by omega
          have g2 : decide (0 < i) = true := by simp; omega
          have g3 : 0 < i := by omega
          obtain ⟨P', hP'⟩ : ∃ P', T[i - 1]? = some P' := ⟨_, List.getElem?_eq_getElem (by omega)⟩
          have HPi' := Lib.hid hP'
          rw [HTP.out.1] at hP'
          obtain ⟨r', hr', hPr'⟩ := part_get hP'
          have hr2' : r' < 256 := reps_lt (List.mem_of_getElem? hr')
          have HF' : Hid (setFirst P' = (r' : Int)) := by show _ = _; rw [hPr']; exact part_first hr2' (reps_rep (List.mem_of_getElem? hr'))
          have hrr : r' < r := reps_sorted hr' HR.out (by omega)
          have hrl : (r' : Int) < (r : Int) := by omega
          have grr : decide ((r : Int) ≤ (r' : Int)) = false := by simp; omega
          obtain ⟨AP', cP', sP', nP'⟩ := HP.out.get HPi'.out
          have SP' := Lib.hid sP'
          have C3 : Hid (∀ x : BW wi, Calls Try.prog 15 #[.slice AP' P'.length cP'] x.w1 fun e w'' => e = .returned (.int .i64 r') ∧ ∃ y : BW wi, w'' = y.w1) := fun x => Calls.bw (iv HF'.out) (iSetFirst_c AP' cP' P' x.w1 ((SP'.out.below HB.out).below (BW.up x)))
          have N3 : ∀ x : BW wi, x.w1.cell? (aP.add (i - 1)) = some (.slice AP' P'.length cP') := fun x => x.cell ((HB.out.cell (World.block_lt_of_cell? w3 _ nP')).trans nP')
          have e1 : IntKind.i64.wrap ((i : Int) - 1) = (i : Int) - 1 := IntWalk.i64_in _ (by omega)
          have e2 : (0 : Int) ≤ (i : Int) - 1 := by omega
          have e3 : (i : Int) - 1 < (T.length : Int) := by omega
          have e4 : ((i : Int) - 1).toNat = i - 1 := by omega
          clear hi0 hP' hr' hPr' sP' nP' hrr
          go_wp2_with fail
          refine wp_region_bw (by kernel_rfl) (by kernel_rfl) ?_
          repeat (go_big_quiet_step ((first | (go_at_call 14; with_reducible exact C1.out _) | (go_at_call 15; with_reducible exact C2.out _) | (go_at_call 15; with_reducible exact C3.out _))))
          refine wpQuiet_nil ?_
          rintro w4 ⟨x1, y1⟩
          have b1 : Below wi.heap.size wi w4 := y1 ▸ x1.up
          clear y1 x1 N1 N2 N3
          go_wp2_with fail
          go_meet
          refine ⟨?_, b1⟩
          first | rfl | (simp; done) | (simp; omega)
      case rest =>
        obtain ⟨rfl, HC⟩ := hcut
        clear N1 N2 C1 C2
        have HBc := Lib.hid (below_then HB.out HC.out)
        have np := (HBc.out.cell (World.block_lt_of_cell? w3 _ NP.out)).trans NP.out
        obtain ⟨z, hz⟩ : ∃ z : Nat, z = cnt (fun i => setHas P (i : Int)) 256 := ⟨_, rfl⟩
        have hz2 : setSize P = (z : Int) := by rw [hz]; rfl
        have hzl : z ≤ 256 := by rw [hz]; exact cnt_le' _ _
        have hpl : p ≤ 256 := by
          have h1 := sumS_le T i
          rw [← HS.out, HTP.out.1, sumS_all] at h1
          exact h1
        have HS2 : Hid (p + z = sumS (T.take (i + 1))) := by show _ = _; rw [sumS_take HPi.out, HS.out, hz]
        clear hz
        go_wp2_with fail
        refine (iSetSize_c _ _ _ _ (SP.out.below HBc.out)).mono ?_
        rintro e w5 ⟨rfl, b5⟩
        rw [hz2]
        clear hz2 np
        have HB5 := Lib.hid (below_then HBc.out b5)
        clear b5
        go_wp2_with fail
        go_loopg [8] xss.length (fun n v8 wr => ∃ k : Nat, k + n = xss.length ∧ v8 = .int .i64 k ∧ Hid (Below w3.heap.size w3 wr))
        case atStart => exact ⟨0, by omega, rfl, HB5⟩
        case round =>
          clear HB5
          obtain ⟨k, hk, rfl, HBk⟩ := hrel
          by_cases hkl : k < xss.length
          · have hkl' : (k : Int) < (xss.length : Int) := by omega
            have k0 : (0 : Int) ≤ (k : Int) := by omega
            obtain ⟨aL, _, _, _, rfl, _⟩ := HL.out.at_ k hkl
            obtain ⟨s, hs⟩ : ∃ s, xss[k]? = some s := ⟨_, List.getElem?_eq_getElem hkl⟩
            have hmem := List.mem_of_getElem? hs
            have hpm := part_meet (xss := xss) (r := r) (HTP.out.2 s hmem) hmem
            rw [← HPR.out] at hpm
            obtain ⟨AL, cL, sL, nL⟩ := HL.out.get hs
            have SL := Lib.hid sL
            have NL := Lib.hid nL
            clear hs hmem sL nL
            obtain ⟨gI, rfl⟩ : ∃ x, x = gk := ⟨_, rfl⟩
            obtain ⟨wk, hwk⟩ : ∃ x : World, x = wr := ⟨_, rfl⟩
            subst hwk
            have HM2 : Hid (∀ w', Below wk.heap.size wk w' → w'.cell? (aP.add i) = some (.slice AP P.length cP) ∧ w'.cell? (aL.add k) = some (.slice AL s.length cL)) := fun w' hb => ⟨((below_then HBk.out hb).cell (World.block_lt_of_cell? w3 _ NP.out)).trans NP.out, ((below_then HBk.out hb).cell (World.block_lt_of_cell? w3 _ NL.out)).trans NL.out⟩
            rcases hpm with hpm | hpm
            · have HMT := Lib.hid hpm
              clear hpm
              go_wp2_with fail
              go_region_held3 (fun w' => w'.cell? (aP.add i) = some (.slice AP P.length cP) ∧ w'.cell? (aL.add k) = some (.slice AL s.length cL))
                (first | exact HM2.out _ (Below.refl _ _) | exact HM2.out _ (below_drew (Below.refl _ _)) | exact HM2.out _ BA.out)
                (first
                  | (go_at_call 17; with_reducible refine (iSetMeet_c AP AL cP cL P s wk.drew ((SP.out.below HBk.out).below (below_drew (Below.refl _ _))) ((SL.out.below HBk.out).below (below_drew (Below.refl _ _)))).mono ?_; rw [HMT.out]; rintro e wA ⟨vM, rfl, oM, bM⟩; obtain ⟨AM, cM, rfl, sM⟩ := oM.sps; have BA := Lib.hid (below_then (below_drew (Below.refl wk.heap.size wk)) bM); have SM := Lib.hid sM; clear oM bM sM))
              have n4 := (HM2.out _ BA.out).1
              have g1 : (0 : Int) < (P.length : Int) := by omega
              have g2 : decide (0 < P.length) = true := by simp; omega
              have g0 : decide ((0 : Int) < (P.length : Int)) = true := by simp; omega
              go_wp2_with fail
              refine (iSetSame_c AM AP cM cP P P wA SM.out (SP.out.below (below_then HBk.out BA.out))).mono ?_
              rintro e w6 ⟨rfl, d6⟩
              rw [decide_eq_true rfl]
              have b6 := d6.below
              clear n4 g0 g1 g2 d6
              go_wp2_with fail
              go_roundg (gI - 1)
              case measure => omega
              case rel => exact ⟨k + 1, by omega, by go_num, below_then HBk.out (below_then BA.out b6)⟩
            · have HMT := Lib.hid hpm
              clear hpm
              go_wp2_with fail
              go_region_held3 (fun w' => w'.cell? (aP.add i) = some (.slice AP P.length cP) ∧ w'.cell? (aL.add k) = some (.slice AL s.length cL))
                (first | exact HM2.out _ (Below.refl _ _) | exact HM2.out _ (below_drew (Below.refl _ _)) | exact HM2.out _ BA.out)
                (first
                  | (go_at_call 17; with_reducible refine (iSetMeet_c AP AL cP cL P s wk.drew ((SP.out.below HBk.out).below (below_drew (Below.refl _ _))) ((SL.out.below HBk.out).below (below_drew (Below.refl _ _)))).mono ?_; rw [HMT.out]; rintro e wA ⟨vM, rfl, oM, bM⟩; obtain ⟨AM, cM, rfl, sM⟩ := oM.sps; have BA := Lib.hid (below_then (below_drew (Below.refl wk.heap.size wk)) bM); have SM := Lib.hid sM; clear oM bM sM))
              go_wp2_with fail
              go_roundg (gI - 1)
              case measure => omega
              case rel => exact ⟨k + 1, by omega, by go_num, below_then HBk.out BA.out⟩
          · go_wp2_with fail
            go_loopg [10] i (fun n v10 wr => ∃ k : Nat, k + n = i ∧ v10 = .int .i64 k ∧ Hid (Below w3.heap.size w3 wr))
            case atStart => exact ⟨0, by omega, rfl, HBk⟩
            case round =>
              clear HBk
              obtain ⟨k, hk, rfl, HBk⟩ := hrel
              by_cases hkl : k < i
              · have hkl' : (k : Int) < (i : Int) := by omega
                have k0 : (0 : Int) ≤ (k : Int) := by omega
                have hkT : (k : Int) < (T.length : Int) := by omega
                obtain ⟨Q, hQ⟩ : ∃ Q, T[k]? = some Q := ⟨_, List.getElem?_eq_getElem (by omega)⟩
                obtain ⟨AQ, cQ, sQ, nQ⟩ := HP.out.get hQ
                have SQ := Lib.hid sQ
                have NQ := Lib.hid nQ
                rw [HTP.out.1] at hQ
                obtain ⟨rk, hrk, hQr⟩ := part_get hQ
                have hrk2 : rk < 256 := reps_lt (List.mem_of_getElem? hrk)
                have HFQ : Hid (setFirst Q = (rk : Int)) := by show _ = _; rw [hQr]; exact part_first hrk2 (reps_rep (List.mem_of_getElem? hrk))
                have HNE : Hid (key xss r ≠ key xss rk) := reps_ne HR.out hrk (by omega)
                have HMT : Hid (setMeet P Q = []) := by show _ = _; rw [hQr, HPR.out]; exact part_apart HNE.out
                clear hQ sQ nQ hrk hQr
                obtain ⟨gI, rfl⟩ : ∃ x, x = gk := ⟨_, rfl⟩
                obtain ⟨wk, hwk⟩ : ∃ x : World, x = wr := ⟨_, rfl⟩
                subst hwk
                have HM2 : Hid (∀ w', Below wk.heap.size wk w' → w'.cell? (aP.add i) = some (.slice AP P.length cP) ∧ w'.cell? (aP.add k) = some (.slice AQ Q.length cQ)) := fun w' hb => ⟨((below_then HBk.out hb).cell (World.block_lt_of_cell? w3 _ NP.out)).trans NP.out, ((below_then HBk.out hb).cell (World.block_lt_of_cell? w3 _ NQ.out)).trans NQ.out⟩
                go_wp2_with fail
                go_region_held3 (fun w' => w'.cell? (aP.add i) = some (.slice AP P.length cP) ∧ w'.cell? (aP.add k) = some (.slice AQ Q.length cQ))
                  (first | exact HM2.out _ (Below.refl _ _) | exact HM2.out _ (below_drew (Below.refl _ _)) | exact HM2.out _ BA.out)
                  (first
                    | (go_at_call 17; with_reducible refine (iSetMeet_c AP AQ cP cQ P Q wk.drew ((SP.out.below HBk.out).below (below_drew (Below.refl _ _))) ((SQ.out.below HBk.out).below (below_drew (Below.refl _ _)))).mono ?_; rw [HMT.out]; rintro e wA ⟨vM, rfl, oM, bM⟩; obtain ⟨AM, cM, rfl, sM⟩ := oM.sps; have BA := Lib.hid (below_then (below_drew (Below.refl wk.heap.size wk)) bM); clear oM bM sM))
                have HBA := Lib.hid (below_then HBk.out BA.out)
                clear HM2 BA HBk HMT
                go_wp2_with fail
                go_loopg [11, 12] xss.length (fun n v11 v12 wr => ∃ q : Nat, q + n = xss.length ∧ v12 = .int .i64 q ∧ v11 = .bool (apartN xss r rk q) ∧ Hid (Below w3.heap.size w3 wr))
                case atStart => exact ⟨0, by omega, rfl, by unfold apartN; simp, HBA⟩
                case round =>
                  clear HBA
                  obtain ⟨q, hq, rfl, rfl, HBq⟩ := hrel
                  by_cases hql : q < xss.length
                  · have hql' : (q : Int) < (xss.length : Int) := by omega
                    have q0 : (0 : Int) ≤ (q : Int) := by omega
                    obtain ⟨aL, _, _, _, rfl, _⟩ := HL.out.at_ q hql
                    obtain ⟨s, hs⟩ : ∃ s, xss[q]? = some s := ⟨_, List.getElem?_eq_getElem hql⟩
                    have HAS := Lib.hid (apartN_succ (x := r) (y := rk) hs)
                    obtain ⟨AL, cL, sL, nL⟩ := HL.out.get hs
                    have SL := Lib.hid sL
                    obtain ⟨gJ, rfl⟩ : ∃ x, x = gk := ⟨_, rfl⟩
                    obtain ⟨wq, hwq⟩ : ∃ x : World, x = wr := ⟨_, rfl⟩
                    subst hwq
                    cases hal : apartN xss r rk q with
                    | true =>
                      have HS3 : Hid (apartN xss r rk (q + 1) = true) := by show _ = _; rw [HAS.out, hal]; rfl
                      clear hs sL nL hal HAS
                      go_wp2_with fail
                      refine wp_region_bw (by kernel_rfl) (by kernel_rfl) ?_
                      repeat (go_big_quiet_step ((fail)))
                      refine wpQuiet_nil ?_
                      rintro w6 ⟨x1, y1⟩
                      have b6 : Below wq.heap.size wq w6 := y1 ▸ x1.up
                      clear y1 x1
                      go_wp2_with fail
                      go_roundg (gJ - 1)
                      case measure => omega
                      case rel => exact ⟨q + 1, by omega, by go_num, congrArg Value.bool HS3.out.symm, below_then HBq.out b6⟩
                    | false =>
                      have HS3 : Hid (apartN xss r rk (q + 1) = (setHas s (r : Int) != setHas s (rk : Int))) := by show _ = _; rw [HAS.out, hal]; rfl
                      have D1 : Hid (∀ x : BW wq, Calls Try.prog 15 #[.slice AP P.length cP] x.w1 fun e w'' => e = .returned (.int .i64 r) ∧ ∃ y : BW wq, w'' = y.w1) := fun x => Calls.bw (iv HF.out) (iSetFirst_c AP cP P x.w1 ((SP.out.below HBq.out).below (BW.up x)))
                      have D2 : Hid (∀ x : BW wq, Calls Try.prog 15 #[.slice AQ Q.length cQ] x.w1 fun e w'' => e = .returned (.int .i64 rk) ∧ ∃ y : BW wq, w'' = y.w1) := fun x => Calls.bw (iv HFQ.out) (iSetFirst_c AQ cQ Q x.w1 ((SQ.out.below HBq.out).below (BW.up x)))
                      have D3 : Hid (∀ x : BW wq, Calls Try.prog 18 #[.slice AL s.length cL, .int .i64 r] x.w1 fun e w'' => e = .returned (.bool (setHas s (r : Int))) ∧ ∃ y : BW wq, w'' = y.w1) := fun x => Calls.bw rfl (iSetHas_c AL cL s r x.w1 ((SL.out.below HBq.out).below (BW.up x)))
                      have D4 : Hid (∀ x : BW wq, Calls Try.prog 18 #[.slice AL s.length cL, .int .i64 rk] x.w1 fun e w'' => e = .returned (.bool (setHas s (rk : Int))) ∧ ∃ y : BW wq, w'' = y.w1) := fun x => Calls.bw rfl (iSetHas_c AL cL s rk x.w1 ((SL.out.below HBq.out).below (BW.up x)))
                      have N1 : ∀ x : BW wq, x.w1.cell? (aP.add i) = some (.slice AP P.length cP) := fun x => x.cell ((HBq.out.cell (World.block_lt_of_cell? w3 _ NP.out)).trans NP.out)
                      have N2 : ∀ x : BW wq, x.w1.cell? (aP.add k) = some (.slice AQ Q.length cQ) := fun x => x.cell ((HBq.out.cell (World.block_lt_of_cell? w3 _ NQ.out)).trans NQ.out)
                      have N3 : ∀ x : BW wq, x.w1.cell? (aL.add q) = some (.slice AL s.length cL) := fun x => x.cell ((HBq.out.cell (World.block_lt_of_cell? w3 _ nL)).trans nL)
                      clear hs sL nL hal HAS
                      go_wp2_with fail
                      refine wp_region_bw (by kernel_rfl) (by kernel_rfl) ?_
                      repeat (go_big_quiet_step ((first | (go_at_call 15; with_reducible exact D1.out _) | (go_at_call 15; with_reducible exact D2.out _) | (go_at_call 18; with_reducible exact D3.out _) | (go_at_call 18; with_reducible exact D4.out _))))
                      refine wpQuiet_nil ?_
                      rintro w6 ⟨x1, y1⟩
                      have b6 : Below wq.heap.size wq w6 := y1 ▸ x1.up
                      clear y1 x1 N1 N2 N3 D1 D2 D3 D4
                      go_wp2_with fail
                      go_roundg (gJ - 1)
                      case measure => omega
                      case rel => exact ⟨q + 1, by omega, by go_num, by rw [HS3.out]; rfl, below_then HBq.out b6⟩
                  · have HAD := Lib.hid (apartN_done (xss := xss) (x := r) (y := rk) (n := q) HNE.out (by omega))
                    rw [HAD.out]
                    go_wp2_with fail
                    go_roundg (gI - 1)
                    case measure => omega
                    case rel => exact ⟨k + 1, by omega, by go_num, HBq⟩
              · go_wp2_with fail
                go_roundg (gO - 1)
                case measure => omega
                case rel => exact ⟨i + 1, by omega, by go_num, ⟨p + z, by go_num, HS2⟩, HBk⟩
    · have hj : i = T.length := by omega
      have hp : p = 256 := by rw [HS.out, hj, List.take_length, HTP.out.1, sumS_all]
      subst hp
      clear hj
      go_wp2_with fail
      go_ret
      exact ⟨rfl, below_then B.out HB.out⟩

end Go.Proofs.Ytplhbjpkkhhilaa
