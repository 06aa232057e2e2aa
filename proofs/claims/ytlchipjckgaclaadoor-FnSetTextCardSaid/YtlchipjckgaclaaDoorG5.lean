/- Texts joined for the claims: Sm Tj Sk. -/
import Derived.Test.YtlchipjckgaclaaDoorG4
import Derived.Deep.CutBlock
/- Numbers read: l15Num of the reference. -/
namespace Go.Proofs.YtlchipjckgaclaaDoor
set_option linter.unusedSimpArgs false
set_option linter.unusedVariables false
set_option maxRecDepth 100000
open Go.RowKit

def numBody (neg : Bool) (l : List UInt8) : Option Int := if l.length < 1 ∨ 17 < l.length ∨ (l.head? = some 48 ∧ (1 < l.length ∨ neg = true)) then none else if l.all isDig then some (if neg then -(digVal l : Int) else (digVal l : Int)) else none
def numOf (l : List UInt8) : Option Int := if l.head? = some 45 then numBody true l.tail else numBody false l
theorem numBody_no {neg : Bool} {l : List UInt8} (h : l.length < 1 ∨ 17 < l.length ∨ (l.head? = some 48 ∧ (1 < l.length ∨ neg = true))) : numBody neg l = none := if_pos h
theorem numBody_of {neg : Bool} {l : List UInt8} (h : ¬ (l.length < 1 ∨ 17 < l.length ∨ (l.head? = some 48 ∧ (1 < l.length ∨ neg = true)))) : numBody neg l = if l.all isDig then some (if neg then -(digVal l : Int) else (digVal l : Int)) else none := if_neg h
abbrev numV (o : Option Int) : Value := .tuple #[.int .i64 (o.getD 0), .bool o.isSome]
theorem bytes_len (t : ByteArray) : t.data.toList.length = t.size := by rw [Array.length_toList]; rfl
theorem bytes_get {t : ByteArray} {i : Nat} (h : i < t.size) : t.data.toList[i]? = some t[i] := by rw [Array.getElem?_toList, Array.getElem?_eq_getElem h]; rfl

set_option maxHeartbeats 4000000 in
theorem sNum_c (t : ByteArray) (w : World) (hs : t.size ≤ 4294967280) :
    Calls Tryd.prog 62 #[.string t] w fun e w' => e = .returned (numV (numOf t.data.toList)) ∧ w = w' := by
  go_enter Tryd.func62, Tryd.ntmps62
  by_cases h45 : t.data.toList.head? = some 45
  · have h0 : 0 < t.size := by
      rcases Nat.eq_zero_or_pos t.size with h | h
      · rw [List.head?_eq_getElem?, List.getElem?_eq_none (by rw [bytes_len, h]; omega)] at h45; cases h45
      · exact h
    have EE : Hid (numOf t.data.toList = numBody true (t.extract 1 t.size).data.toList) := by
      show _ = _
      rw [numOf, if_pos h45]
      congr 1
      simp [List.drop_one]
      exact (List.take_of_length_le (by rw [List.length_tail, bytes_len]; omega)).symm
    have q0 : (0 : Int) < (t.size : Int) := by omega
    have q2 : ((t[0].toNat : Int) == 45) = true := by
      rw [List.head?_eq_getElem?, bytes_get h0] at h45
      injection h45 with h45
      rw [h45]
      rfl
    have q3 : (1 : Int) ≤ (t.size : Int) := by omega
    go_upto_region 4 with fail
    obtain ⟨u, hu⟩ : ∃ u, u = t.extract 1 t.size := ⟨_, rfl⟩
    have hus : u.size ≤ 4294967280 := by rw [hu]; simp; omega
    rw [← hu] at EE ⊢
    clear hu q0 q2 q3 hs
    have hs := hus
    have HL := Lib.hid (bytes_len u)
    by_cases h1 : u.size = 0
    · have E : Hid (numBody true u.data.toList = none) := numBody_no (.inl (by rw [HL.out]; omega))
      have g1 : ((u.size : Int) == 0) = true := by simp [h1]
      clear h1
      go_wp2_with fail
      exact bodyPost_ret (v := .tuple #[.int .i64 0, .bool false]) (by simp [results, Tryd.results62, go_sem]) rfl ⟨by rw [EE.out, E.out]; rfl, rfl⟩
    have g0 : ((u.size : Int) == 0) = false := by simp [h1]
    by_cases h6 : 17 < u.size
    · have E : Hid (numBody true u.data.toList = none) := numBody_no (.inr (.inl (by rw [HL.out]; omega)))
      have g1 : (17 : Int) < (u.size : Int) := by omega
      clear h1 h6
      go_wp2_with fail
      exact bodyPost_ret (v := .tuple #[.int .i64 0, .bool false]) (by simp [results, Tryd.results62, go_sem]) rfl ⟨by rw [EE.out, E.out]; rfl, rfl⟩
    have g1 : ¬ (17 : Int) < (u.size : Int) := by omega
    have hs0 : 0 < u.size := by omega
    have hs0' : (0 : Int) < (u.size : Int) := by omega
    have HB := Lib.hid (bytes_get hs0)
    have HH : Hid (u.data.toList.head? = some u[0]) := by show _ = _; rw [List.head?_eq_getElem?]; exact HB.out
    obtain ⟨c, hc⟩ : ∃ c, c = u[0] := ⟨_, rfl⟩
    rw [← hc] at HB HH
    by_cases h48 : c.toNat = 48
    · have d0 : ((u[0].toNat : Int) == 48) = true := by rw [← hc]; simp [h48]
      have E : Hid (numBody true u.data.toList = none) := numBody_no (.inr (.inr ⟨by rw [HH.out]; exact congrArg some (UInt8.toNat_inj.1 h48), .inr rfl⟩))
      by_cases h3 : 1 < u.size
      · have d1 : (1 : Int) < (u.size : Int) := by omega
        clear h1 h6 h48 h3 hc
        go_wp2_with fail
        exact bodyPost_ret (v := .tuple #[.int .i64 0, .bool false]) (by simp [results, Tryd.results62, go_sem]) rfl ⟨by rw [EE.out, E.out]; rfl, rfl⟩
      · have d1 : ¬ (1 : Int) < (u.size : Int) := by omega
        clear h1 h6 h48 h3 hc
        go_wp2_with fail
        exact bodyPost_ret (v := .tuple #[.int .i64 0, .bool false]) (by simp [results, Tryd.results62, go_sem]) rfl ⟨by rw [EE.out, E.out]; rfl, rfl⟩
    · have E := Lib.hid (numBody_of (neg := true) (l := u.data.toList) (by
        rw [HL.out, HH.out]
        rintro (h | h | ⟨h, _⟩)
        · omega
        · omega
        · injection h with h; exact h48 (by rw [h]; rfl)))
      have d0 : ((u[0].toNat : Int) == 48) = false := by rw [← hc, beq_eq_false_iff_ne]; omega
      clear h1 h48 hc
      have hsz : u.size ≤ 17 := by omega
      go_wp2_with fail
      clear d0 g0 g1
      go_loopg [5, 6] u.size (fun n v5 v6 wr => ∃ i : Nat, i + n = u.size ∧ v6 = .int .i64 i ∧ ∃ m : Nat, v5 = .int .i64 m ∧ Hid (m = digVal (u.data.toList.take i)) ∧ Hid (∀ b ∈ u.data.toList.take i, isDig b = true) ∧ w = wr)
      case atStart => exact ⟨0, by omega, rfl, 0, rfl, rfl, fun b hb => by simp at hb, rfl⟩
      case round =>
        obtain ⟨i, hi, rfl, m, rfl, HM, HD, rfl⟩ := hrel
        have hm : m < 100000000000000000 := by
          have h1 := dig_bound _ HD.out
          have h2 : (u.data.toList.take i).length ≤ 17 := by rw [List.length_take]; omega
          have h3 : 10 ^ (u.data.toList.take i).length ≤ 10 ^ 17 := Nat.pow_le_pow_right (by decide) h2
          rw [HM.out]
          omega
        by_cases hlt : i < u.size
        · have i0 : (0 : Int) ≤ (i : Int) := by omega
          have i1 : (i : Int) < (u.size : Int) := by omega
          have HBI := Lib.hid (bytes_get hlt)
          obtain ⟨b, hb⟩ : ∃ b, b = u[i] := ⟨_, rfl⟩
          have hb256 := b.toNat_lt
          rw [← hb] at HBI
          by_cases hdig : isDig b = true
          · have hd2 := hdig
            unfold isDig at hd2
            simp only [Bool.and_eq_true, decide_eq_true_eq] at hd2
            have e0 : ¬ ((u[i].toNat : Nat) : Int) < 48 := by rw [← hb]; omega
            have e3 : ¬ (57 : Int) < ((u[i].toNat : Nat) : Int) := by rw [← hb]; omega
            have e4 : ¬ u[i].toNat < 48 := by rw [← hb]; omega
            have e5 : ¬ 57 < u[i].toNat := by rw [← hb]; omega
            have e1 : IntKind.u8.wrap ((u[i].toNat : Int) - 48) = (u[i].toNat : Int) - 48 := by rw [← hb]; exact IntWalk.u8_in _ (by omega)
            have hb' := Lib.hid hb
            have HDG := Lib.hid hdig
            have HD2 := Lib.hid hd2
            clear hb hdig hd2
            go_wp2_with fail
            go_roundg (gk - 1)
            case measure => omega
            case rel =>
              have hb := hb'.out
              have hd2 := HD2.out
              refine ⟨i + 1, by omega, by go_num, 10 * m + (b.toNat - 48), ?_, ?_, ?_, rfl⟩
              · rw [← hb]
                first
                  | exact congrArg (Value.int .i64) (by omega)
                  | (rw [Go.IntWalk.wrap64_in ((b.toNat : Int) - 48) (by omega), Go.IntWalk.wrap64_in _ (by omega)]; exact congrArg (Value.int .i64) (by omega))
                  | (rw [Go.IntWalk.wrap64_in ((m : Int) * 10) (by omega), Go.IntWalk.wrap64_in ((b.toNat : Int) - 48) (by omega), Go.IntWalk.wrap64_in _ (by omega)]; exact congrArg (Value.int .i64) (by omega))
              · show _ = _
                rw [dig_take HBI.out, HM.out]
              · intro x hx
                rw [List.take_add_one, HBI.out] at hx
                rcases List.mem_append.1 hx with hx | hx
                · exact HD.out x hx
                · simp at hx
                  rw [hx]
                  exact HDG.out
          · have hf : isDig b = false := by simpa using hdig
            have EN : Hid (numBody true u.data.toList = none) := by
              show _ = _
              rw [E.out, if_neg]
              intro hall
              have := List.all_eq_true.1 hall b (List.mem_of_getElem? HBI.out)
              rw [hf] at this
              cases this
            clear E
            have E := EN
            unfold isDig at hf
            simp only [Bool.and_eq_false_iff, decide_eq_false_iff_not] at hf
            by_cases h1 : b.toNat < 48
            · have e0 : ((u[i].toNat : Nat) : Int) < 48 := by rw [← hb]; omega
              have e1 : u[i].toNat < 48 := by rw [← hb]; omega
              clear hb hdig hf EN h1
              go_wp2_with fail
              exact bodyPost_ret (v := .tuple #[.int .i64 0, .bool false]) (by simp [results, Tryd.results62, go_sem]) rfl ⟨by rw [EE.out, E.out]; rfl, rfl⟩
            · have e0 : ¬ ((u[i].toNat : Nat) : Int) < 48 := by rw [← hb]; omega
              have e3 : (57 : Int) < ((u[i].toNat : Nat) : Int) := by rw [← hb]; omega
              have e4 : ¬ u[i].toNat < 48 := by rw [← hb]; omega
              have e5 : 57 < u[i].toNat := by rw [← hb]; omega
              clear hb hdig hf EN h1
              go_wp2_with fail
              exact bodyPost_ret (v := .tuple #[.int .i64 0, .bool false]) (by simp [results, Tryd.results62, go_sem]) rfl ⟨by rw [EE.out, E.out]; rfl, rfl⟩
        · have hit : i = u.size := by omega
          have htk : u.data.toList.take i = u.data.toList := List.take_of_length_le (by rw [HL.out]; omega)
          rw [htk] at HM HD
          have EN : Hid (numBody true u.data.toList = some (if true = true then -(m : Int) else (m : Int))) := by
            show _ = _
            rw [E.out, if_pos (List.all_eq_true.2 HD.out), HM.out]
            try simp
          have hw : IntKind.i64.wrap (-(m : Int)) = -(m : Int) := IntWalk.i64_in _ (by omega)
          clear hit htk
          go_wp2_with fail
          exact bodyPost_ret (v := .tuple #[.int .i64 (if true = true then -(m : Int) else (m : Int)), .bool true]) (by simp [results, Tryd.results62, go_sem]) rfl ⟨by rw [EE.out, EN.out]; rfl, rfl⟩
  · have EE : Hid (numOf t.data.toList = numBody false t.data.toList) := if_neg h45
    obtain ⟨u, hu⟩ : ∃ u, u = t := ⟨_, rfl⟩
    rw [← hu] at h45 EE hs ⊢
    clear hu
    by_cases hz : u.size = 0
    · have q0 : ¬ (0 : Int) < (u.size : Int) := by omega
      have q1 : ¬ 0 < u.size := by omega
      go_upto_region 4 with fail
      clear q0 q1 hz
      have HL := Lib.hid (bytes_len u)
      by_cases h1 : u.size = 0
      · have E : Hid (numBody false u.data.toList = none) := numBody_no (.inl (by rw [HL.out]; omega))
        have g1 : ((u.size : Int) == 0) = true := by simp [h1]
        clear h1
        go_wp2_with fail
        exact bodyPost_ret (v := .tuple #[.int .i64 0, .bool false]) (by simp [results, Tryd.results62, go_sem]) rfl ⟨by rw [EE.out, E.out]; rfl, rfl⟩
      have g0 : ((u.size : Int) == 0) = false := by simp [h1]
      by_cases h6 : 17 < u.size
      · have E : Hid (numBody false u.data.toList = none) := numBody_no (.inr (.inl (by rw [HL.out]; omega)))
        have g1 : (17 : Int) < (u.size : Int) := by omega
        clear h1 h6
        go_wp2_with fail
        exact bodyPost_ret (v := .tuple #[.int .i64 0, .bool false]) (by simp [results, Tryd.results62, go_sem]) rfl ⟨by rw [EE.out, E.out]; rfl, rfl⟩
      have g1 : ¬ (17 : Int) < (u.size : Int) := by omega
      have hs0 : 0 < u.size := by omega
      have hs0' : (0 : Int) < (u.size : Int) := by omega
      have HB := Lib.hid (bytes_get hs0)
      have HH : Hid (u.data.toList.head? = some u[0]) := by show _ = _; rw [List.head?_eq_getElem?]; exact HB.out
      obtain ⟨c, hc⟩ : ∃ c, c = u[0] := ⟨_, rfl⟩
      rw [← hc] at HB HH
      by_cases h48 : c.toNat = 48
      · have d0 : ((u[0].toNat : Int) == 48) = true := by rw [← hc]; simp [h48]
        by_cases h3 : 1 < u.size
        · have E : Hid (numBody false u.data.toList = none) := numBody_no (.inr (.inr ⟨by rw [HH.out]; exact congrArg some (UInt8.toNat_inj.1 h48), by rw [HL.out]; exact .inl h3⟩))
          have d1 : (1 : Int) < (u.size : Int) := by omega
          clear h1 h6 h48 h3 hc
          go_wp2_with fail
          exact bodyPost_ret (v := .tuple #[.int .i64 0, .bool false]) (by simp [results, Tryd.results62, go_sem]) rfl ⟨by rw [EE.out, E.out]; rfl, rfl⟩
        · have d1 : ¬ (1 : Int) < (u.size : Int) := by omega
          have E : Hid (numBody false u.data.toList = if u.data.toList.all isDig then some (if false = true then -(digVal u.data.toList : Int) else (digVal u.data.toList : Int)) else none) := by
            refine numBody_of ?_
            rw [HL.out]
            rintro (h | h | ⟨_, h | h⟩)
            · omega
            · omega
            · omega
            · cases h
          clear h1 h6 h48 h3 hc
          have hsz : u.size ≤ 17 := by omega
          go_wp2_with fail
          clear d0 g0 g1
          go_loopg [5, 6] u.size (fun n v5 v6 wr => ∃ i : Nat, i + n = u.size ∧ v6 = .int .i64 i ∧ ∃ m : Nat, v5 = .int .i64 m ∧ Hid (m = digVal (u.data.toList.take i)) ∧ Hid (∀ b ∈ u.data.toList.take i, isDig b = true) ∧ w = wr)
          case atStart => exact ⟨0, by omega, rfl, 0, rfl, rfl, fun b hb => by simp at hb, rfl⟩
          case round =>
            obtain ⟨i, hi, rfl, m, rfl, HM, HD, rfl⟩ := hrel
            have hm : m < 100000000000000000 := by
              have h1 := dig_bound _ HD.out
              have h2 : (u.data.toList.take i).length ≤ 17 := by rw [List.length_take]; omega
              have h3 : 10 ^ (u.data.toList.take i).length ≤ 10 ^ 17 := Nat.pow_le_pow_right (by decide) h2
              rw [HM.out]
              omega
            by_cases hlt : i < u.size
            · have i0 : (0 : Int) ≤ (i : Int) := by omega
              have i1 : (i : Int) < (u.size : Int) := by omega
              have HBI := Lib.hid (bytes_get hlt)
              obtain ⟨b, hb⟩ : ∃ b, b = u[i] := ⟨_, rfl⟩
              have hb256 := b.toNat_lt
              rw [← hb] at HBI
              by_cases hdig : isDig b = true
              · have hd2 := hdig
                unfold isDig at hd2
                simp only [Bool.and_eq_true, decide_eq_true_eq] at hd2
                have e0 : ¬ ((u[i].toNat : Nat) : Int) < 48 := by rw [← hb]; omega
                have e3 : ¬ (57 : Int) < ((u[i].toNat : Nat) : Int) := by rw [← hb]; omega
                have e4 : ¬ u[i].toNat < 48 := by rw [← hb]; omega
                have e5 : ¬ 57 < u[i].toNat := by rw [← hb]; omega
                have e1 : IntKind.u8.wrap ((u[i].toNat : Int) - 48) = (u[i].toNat : Int) - 48 := by rw [← hb]; exact IntWalk.u8_in _ (by omega)
                have hb' := Lib.hid hb
                have HDG := Lib.hid hdig
                have HD2 := Lib.hid hd2
                clear hb hdig hd2
                go_wp2_with fail
                go_roundg (gk - 1)
                case measure => omega
                case rel =>
                  have hb := hb'.out
                  have hd2 := HD2.out
                  refine ⟨i + 1, by omega, by go_num, 10 * m + (b.toNat - 48), ?_, ?_, ?_, rfl⟩
                  · rw [← hb]
                    first
                      | exact congrArg (Value.int .i64) (by omega)
                      | (rw [Go.IntWalk.wrap64_in ((b.toNat : Int) - 48) (by omega), Go.IntWalk.wrap64_in _ (by omega)]; exact congrArg (Value.int .i64) (by omega))
                      | (rw [Go.IntWalk.wrap64_in ((m : Int) * 10) (by omega), Go.IntWalk.wrap64_in ((b.toNat : Int) - 48) (by omega), Go.IntWalk.wrap64_in _ (by omega)]; exact congrArg (Value.int .i64) (by omega))
                  · show _ = _
                    rw [dig_take HBI.out, HM.out]
                  · intro x hx
                    rw [List.take_add_one, HBI.out] at hx
                    rcases List.mem_append.1 hx with hx | hx
                    · exact HD.out x hx
                    · simp at hx
                      rw [hx]
                      exact HDG.out
              · have hf : isDig b = false := by simpa using hdig
                have EN : Hid (numBody false u.data.toList = none) := by
                  show _ = _
                  rw [E.out, if_neg]
                  intro hall
                  have := List.all_eq_true.1 hall b (List.mem_of_getElem? HBI.out)
                  rw [hf] at this
                  cases this
                clear E
                have E := EN
                unfold isDig at hf
                simp only [Bool.and_eq_false_iff, decide_eq_false_iff_not] at hf
                by_cases h1 : b.toNat < 48
                · have e0 : ((u[i].toNat : Nat) : Int) < 48 := by rw [← hb]; omega
                  have e1 : u[i].toNat < 48 := by rw [← hb]; omega
                  clear hb hdig hf EN h1
                  go_wp2_with fail
                  exact bodyPost_ret (v := .tuple #[.int .i64 0, .bool false]) (by simp [results, Tryd.results62, go_sem]) rfl ⟨by rw [EE.out, E.out]; rfl, rfl⟩
                · have e0 : ¬ ((u[i].toNat : Nat) : Int) < 48 := by rw [← hb]; omega
                  have e3 : (57 : Int) < ((u[i].toNat : Nat) : Int) := by rw [← hb]; omega
                  have e4 : ¬ u[i].toNat < 48 := by rw [← hb]; omega
                  have e5 : 57 < u[i].toNat := by rw [← hb]; omega
                  clear hb hdig hf EN h1
                  go_wp2_with fail
                  exact bodyPost_ret (v := .tuple #[.int .i64 0, .bool false]) (by simp [results, Tryd.results62, go_sem]) rfl ⟨by rw [EE.out, E.out]; rfl, rfl⟩
            · have hit : i = u.size := by omega
              have htk : u.data.toList.take i = u.data.toList := List.take_of_length_le (by rw [HL.out]; omega)
              rw [htk] at HM HD
              have EN : Hid (numBody false u.data.toList = some (if false = true then -(m : Int) else (m : Int))) := by
                show _ = _
                rw [E.out, if_pos (List.all_eq_true.2 HD.out), HM.out]
                try simp
              have hw : IntKind.i64.wrap (-(m : Int)) = -(m : Int) := IntWalk.i64_in _ (by omega)
              clear hit htk
              go_wp2_with fail
              exact bodyPost_ret (v := .tuple #[.int .i64 (if false = true then -(m : Int) else (m : Int)), .bool true]) (by simp [results, Tryd.results62, go_sem]) rfl ⟨by rw [EE.out, EN.out]; rfl, rfl⟩
      · have E := Lib.hid (numBody_of (neg := false) (l := u.data.toList) (by
          rw [HL.out, HH.out]
          rintro (h | h | ⟨h, _⟩)
          · omega
          · omega
          · injection h with h; exact h48 (by rw [h]; rfl)))
        have d0 : ((u[0].toNat : Int) == 48) = false := by rw [← hc, beq_eq_false_iff_ne]; omega
        clear h1 h48 hc
        have hsz : u.size ≤ 17 := by omega
        go_wp2_with fail
        clear d0 g0 g1
        go_loopg [5, 6] u.size (fun n v5 v6 wr => ∃ i : Nat, i + n = u.size ∧ v6 = .int .i64 i ∧ ∃ m : Nat, v5 = .int .i64 m ∧ Hid (m = digVal (u.data.toList.take i)) ∧ Hid (∀ b ∈ u.data.toList.take i, isDig b = true) ∧ w = wr)
        case atStart => exact ⟨0, by omega, rfl, 0, rfl, rfl, fun b hb => by simp at hb, rfl⟩
        case round =>
          obtain ⟨i, hi, rfl, m, rfl, HM, HD, rfl⟩ := hrel
          have hm : m < 100000000000000000 := by
            have h1 := dig_bound _ HD.out
            have h2 : (u.data.toList.take i).length ≤ 17 := by rw [List.length_take]; omega
            have h3 : 10 ^ (u.data.toList.take i).length ≤ 10 ^ 17 := Nat.pow_le_pow_right (by decide) h2
            rw [HM.out]
            omega
          by_cases hlt : i < u.size
          · have i0 : (0 : Int) ≤ (i : Int) := by omega
            have i1 : (i : Int) < (u.size : Int) := by omega
            have HBI := Lib.hid (bytes_get hlt)
            obtain ⟨b, hb⟩ : ∃ b, b = u[i] := ⟨_, rfl⟩
            have hb256 := b.toNat_lt
            rw [← hb] at HBI
            by_cases hdig : isDig b = true
            · have hd2 := hdig
              unfold isDig at hd2
              simp only [Bool.and_eq_true, decide_eq_true_eq] at hd2
              have e0 : ¬ ((u[i].toNat : Nat) : Int) < 48 := by rw [← hb]; omega
              have e3 : ¬ (57 : Int) < ((u[i].toNat : Nat) : Int) := by rw [← hb]; omega
              have e4 : ¬ u[i].toNat < 48 := by rw [← hb]; omega
              have e5 : ¬ 57 < u[i].toNat := by rw [← hb]; omega
              have e1 : IntKind.u8.wrap ((u[i].toNat : Int) - 48) = (u[i].toNat : Int) - 48 := by rw [← hb]; exact IntWalk.u8_in _ (by omega)
              have hb' := Lib.hid hb
              have HDG := Lib.hid hdig
              have HD2 := Lib.hid hd2
              clear hb hdig hd2
              go_wp2_with fail
              go_roundg (gk - 1)
              case measure => omega
              case rel =>
                have hb := hb'.out
                have hd2 := HD2.out
                refine ⟨i + 1, by omega, by go_num, 10 * m + (b.toNat - 48), ?_, ?_, ?_, rfl⟩
                · rw [← hb]
                  first
                    | exact congrArg (Value.int .i64) (by omega)
                    | (rw [Go.IntWalk.wrap64_in ((b.toNat : Int) - 48) (by omega), Go.IntWalk.wrap64_in _ (by omega)]; exact congrArg (Value.int .i64) (by omega))
                    | (rw [Go.IntWalk.wrap64_in ((m : Int) * 10) (by omega), Go.IntWalk.wrap64_in ((b.toNat : Int) - 48) (by omega), Go.IntWalk.wrap64_in _ (by omega)]; exact congrArg (Value.int .i64) (by omega))
                · show _ = _
                  rw [dig_take HBI.out, HM.out]
                · intro x hx
                  rw [List.take_add_one, HBI.out] at hx
                  rcases List.mem_append.1 hx with hx | hx
                  · exact HD.out x hx
                  · simp at hx
                    rw [hx]
                    exact HDG.out
            · have hf : isDig b = false := by simpa using hdig
              have EN : Hid (numBody false u.data.toList = none) := by
                show _ = _
                rw [E.out, if_neg]
                intro hall
                have := List.all_eq_true.1 hall b (List.mem_of_getElem? HBI.out)
                rw [hf] at this
                cases this
              clear E
              have E := EN
              unfold isDig at hf
              simp only [Bool.and_eq_false_iff, decide_eq_false_iff_not] at hf
              by_cases h1 : b.toNat < 48
              · have e0 : ((u[i].toNat : Nat) : Int) < 48 := by rw [← hb]; omega
                have e1 : u[i].toNat < 48 := by rw [← hb]; omega
                clear hb hdig hf EN h1
                go_wp2_with fail
                exact bodyPost_ret (v := .tuple #[.int .i64 0, .bool false]) (by simp [results, Tryd.results62, go_sem]) rfl ⟨by rw [EE.out, E.out]; rfl, rfl⟩
              · have e0 : ¬ ((u[i].toNat : Nat) : Int) < 48 := by rw [← hb]; omega
                have e3 : (57 : Int) < ((u[i].toNat : Nat) : Int) := by rw [← hb]; omega
                have e4 : ¬ u[i].toNat < 48 := by rw [← hb]; omega
                have e5 : 57 < u[i].toNat := by rw [← hb]; omega
                clear hb hdig hf EN h1
                go_wp2_with fail
                exact bodyPost_ret (v := .tuple #[.int .i64 0, .bool false]) (by simp [results, Tryd.results62, go_sem]) rfl ⟨by rw [EE.out, E.out]; rfl, rfl⟩
          · have hit : i = u.size := by omega
            have htk : u.data.toList.take i = u.data.toList := List.take_of_length_le (by rw [HL.out]; omega)
            rw [htk] at HM HD
            have EN : Hid (numBody false u.data.toList = some (if false = true then -(m : Int) else (m : Int))) := by
              show _ = _
              rw [E.out, if_pos (List.all_eq_true.2 HD.out), HM.out]
              try simp
            have hw : IntKind.i64.wrap (-(m : Int)) = -(m : Int) := IntWalk.i64_in _ (by omega)
            clear hit htk
            go_wp2_with fail
            exact bodyPost_ret (v := .tuple #[.int .i64 (if false = true then -(m : Int) else (m : Int)), .bool true]) (by simp [results, Tryd.results62, go_sem]) rfl ⟨by rw [EE.out, EN.out]; rfl, rfl⟩
    · have hz0 : 0 < u.size := by omega
      have q0 : (0 : Int) < (u.size : Int) := by omega
      have q2 : ((u[0].toNat : Int) == 45) = false := by
        rw [beq_eq_false_iff_ne]
        intro h
        apply h45
        rw [List.head?_eq_getElem?, bytes_get hz0]
        exact congrArg some (UInt8.toNat_inj.1 (by show _ = 45; omega))
      go_upto_region 4 with fail
      clear q0 q2 hz
      have HL := Lib.hid (bytes_len u)
      by_cases h1 : u.size = 0
      · have E : Hid (numBody false u.data.toList = none) := numBody_no (.inl (by rw [HL.out]; omega))
        have g1 : ((u.size : Int) == 0) = true := by simp [h1]
        clear h1
        go_wp2_with fail
        exact bodyPost_ret (v := .tuple #[.int .i64 0, .bool false]) (by simp [results, Tryd.results62, go_sem]) rfl ⟨by rw [EE.out, E.out]; rfl, rfl⟩
      have g0 : ((u.size : Int) == 0) = false := by simp [h1]
      by_cases h6 : 17 < u.size
      · have E : Hid (numBody false u.data.toList = none) := numBody_no (.inr (.inl (by rw [HL.out]; omega)))
        have g1 : (17 : Int) < (u.size : Int) := by omega
        clear h1 h6
        go_wp2_with fail
        exact bodyPost_ret (v := .tuple #[.int .i64 0, .bool false]) (by simp [results, Tryd.results62, go_sem]) rfl ⟨by rw [EE.out, E.out]; rfl, rfl⟩
      have g1 : ¬ (17 : Int) < (u.size : Int) := by omega
      have hs0 : 0 < u.size := by omega
      have hs0' : (0 : Int) < (u.size : Int) := by omega
      have HB := Lib.hid (bytes_get hs0)
      have HH : Hid (u.data.toList.head? = some u[0]) := by show _ = _; rw [List.head?_eq_getElem?]; exact HB.out
      obtain ⟨c, hc⟩ : ∃ c, c = u[0] := ⟨_, rfl⟩
      rw [← hc] at HB HH
      by_cases h48 : c.toNat = 48
      · have d0 : ((u[0].toNat : Int) == 48) = true := by rw [← hc]; simp [h48]
        by_cases h3 : 1 < u.size
        · have E : Hid (numBody false u.data.toList = none) := numBody_no (.inr (.inr ⟨by rw [HH.out]; exact congrArg some (UInt8.toNat_inj.1 h48), by rw [HL.out]; exact .inl h3⟩))
          have d1 : (1 : Int) < (u.size : Int) := by omega
          clear h1 h6 h48 h3 hc
          go_wp2_with fail
          exact bodyPost_ret (v := .tuple #[.int .i64 0, .bool false]) (by simp [results, Tryd.results62, go_sem]) rfl ⟨by rw [EE.out, E.out]; rfl, rfl⟩
        · have d1 : ¬ (1 : Int) < (u.size : Int) := by omega
          have E : Hid (numBody false u.data.toList = if u.data.toList.all isDig then some (if false = true then -(digVal u.data.toList : Int) else (digVal u.data.toList : Int)) else none) := by
            refine numBody_of ?_
            rw [HL.out]
            rintro (h | h | ⟨_, h | h⟩)
            · omega
            · omega
            · omega
            · cases h
          clear h1 h6 h48 h3 hc
          have hsz : u.size ≤ 17 := by omega
          go_wp2_with fail
          clear d0 g0 g1
          go_loopg [5, 6] u.size (fun n v5 v6 wr => ∃ i : Nat, i + n = u.size ∧ v6 = .int .i64 i ∧ ∃ m : Nat, v5 = .int .i64 m ∧ Hid (m = digVal (u.data.toList.take i)) ∧ Hid (∀ b ∈ u.data.toList.take i, isDig b = true) ∧ w = wr)
          case atStart => exact ⟨0, by omega, rfl, 0, rfl, rfl, fun b hb => by simp at hb, rfl⟩
          case round =>
            obtain ⟨i, hi, rfl, m, rfl, HM, HD, rfl⟩ := hrel
            have hm : m < 100000000000000000 := by
              have h1 := dig_bound _ HD.out
              have h2 : (u.data.toList.take i).length ≤ 17 := by rw [List.length_take]; omega
              have h3 : 10 ^ (u.data.toList.take i).length ≤ 10 ^ 17 := Nat.pow_le_pow_right (by decide) h2
              rw [HM.out]
              omega
            by_cases hlt : i < u.size
            · have i0 : (0 : Int) ≤ (i : Int) := by omega
              have i1 : (i : Int) < (u.size : Int) := by omega
              have HBI := Lib.hid (bytes_get hlt)
              obtain ⟨b, hb⟩ : ∃ b, b = u[i] := ⟨_, rfl⟩
              have hb256 := b.toNat_lt
              rw [← hb] at HBI
              by_cases hdig : isDig b = true
              · have hd2 := hdig
                unfold isDig at hd2
                simp only [Bool.and_eq_true, decide_eq_true_eq] at hd2
                have e0 : ¬ ((u[i].toNat : Nat) : Int) < 48 := by rw [← hb]; omega
                have e3 : ¬ (57 : Int) < ((u[i].toNat : Nat) : Int) := by rw [← hb]; omega
                have e4 : ¬ u[i].toNat < 48 := by rw [← hb]; omega
                have e5 : ¬ 57 < u[i].toNat := by rw [← hb]; omega
                have e1 : IntKind.u8.wrap ((u[i].toNat : Int) - 48) = (u[i].toNat : Int) - 48 := by rw [← hb]; exact IntWalk.u8_in _ (by omega)
                have hb' := Lib.hid hb
                have HDG := Lib.hid hdig
                have HD2 := Lib.hid hd2
                clear hb hdig hd2
                go_wp2_with fail
                go_roundg (gk - 1)
                case measure => omega
                case rel =>
                  have hb := hb'.out
                  have hd2 := HD2.out
                  refine ⟨i + 1, by omega, by go_num, 10 * m + (b.toNat - 48), ?_, ?_, ?_, rfl⟩
                  · rw [← hb]
                    first
                      | exact congrArg (Value.int .i64) (by omega)
                      | (rw [Go.IntWalk.wrap64_in ((b.toNat : Int) - 48) (by omega), Go.IntWalk.wrap64_in _ (by omega)]; exact congrArg (Value.int .i64) (by omega))
                      | (rw [Go.IntWalk.wrap64_in ((m : Int) * 10) (by omega), Go.IntWalk.wrap64_in ((b.toNat : Int) - 48) (by omega), Go.IntWalk.wrap64_in _ (by omega)]; exact congrArg (Value.int .i64) (by omega))
                  · show _ = _
                    rw [dig_take HBI.out, HM.out]
                  · intro x hx
                    rw [List.take_add_one, HBI.out] at hx
                    rcases List.mem_append.1 hx with hx | hx
                    · exact HD.out x hx
                    · simp at hx
                      rw [hx]
                      exact HDG.out
              · have hf : isDig b = false := by simpa using hdig
                have EN : Hid (numBody false u.data.toList = none) := by
                  show _ = _
                  rw [E.out, if_neg]
                  intro hall
                  have := List.all_eq_true.1 hall b (List.mem_of_getElem? HBI.out)
                  rw [hf] at this
                  cases this
                clear E
                have E := EN
                unfold isDig at hf
                simp only [Bool.and_eq_false_iff, decide_eq_false_iff_not] at hf
                by_cases h1 : b.toNat < 48
                · have e0 : ((u[i].toNat : Nat) : Int) < 48 := by rw [← hb]; omega
                  have e1 : u[i].toNat < 48 := by rw [← hb]; omega
                  clear hb hdig hf EN h1
                  go_wp2_with fail
                  exact bodyPost_ret (v := .tuple #[.int .i64 0, .bool false]) (by simp [results, Tryd.results62, go_sem]) rfl ⟨by rw [EE.out, E.out]; rfl, rfl⟩
                · have e0 : ¬ ((u[i].toNat : Nat) : Int) < 48 := by rw [← hb]; omega
                  have e3 : (57 : Int) < ((u[i].toNat : Nat) : Int) := by rw [← hb]; omega
                  have e4 : ¬ u[i].toNat < 48 := by rw [← hb]; omega
                  have e5 : 57 < u[i].toNat := by rw [← hb]; omega
                  clear hb hdig hf EN h1
                  go_wp2_with fail
                  exact bodyPost_ret (v := .tuple #[.int .i64 0, .bool false]) (by simp [results, Tryd.results62, go_sem]) rfl ⟨by rw [EE.out, E.out]; rfl, rfl⟩
            · have hit : i = u.size := by omega
              have htk : u.data.toList.take i = u.data.toList := List.take_of_length_le (by rw [HL.out]; omega)
              rw [htk] at HM HD
              have EN : Hid (numBody false u.data.toList = some (if false = true then -(m : Int) else (m : Int))) := by
                show _ = _
                rw [E.out, if_pos (List.all_eq_true.2 HD.out), HM.out]
                try simp
              have hw : IntKind.i64.wrap (-(m : Int)) = -(m : Int) := IntWalk.i64_in _ (by omega)
              clear hit htk
              go_wp2_with fail
              exact bodyPost_ret (v := .tuple #[.int .i64 (if false = true then -(m : Int) else (m : Int)), .bool true]) (by simp [results, Tryd.results62, go_sem]) rfl ⟨by rw [EE.out, EN.out]; rfl, rfl⟩
      · have E := Lib.hid (numBody_of (neg := false) (l := u.data.toList) (by
          rw [HL.out, HH.out]
          rintro (h | h | ⟨h, _⟩)
          · omega
          · omega
          · injection h with h; exact h48 (by rw [h]; rfl)))
        have d0 : ((u[0].toNat : Int) == 48) = false := by rw [← hc, beq_eq_false_iff_ne]; omega
        clear h1 h48 hc
        have hsz : u.size ≤ 17 := by omega
        go_wp2_with fail
        clear d0 g0 g1
        go_loopg [5, 6] u.size (fun n v5 v6 wr => ∃ i : Nat, i + n = u.size ∧ v6 = .int .i64 i ∧ ∃ m : Nat, v5 = .int .i64 m ∧ Hid (m = digVal (u.data.toList.take i)) ∧ Hid (∀ b ∈ u.data.toList.take i, isDig b = true) ∧ w = wr)
        case atStart => exact ⟨0, by omega, rfl, 0, rfl, rfl, fun b hb => by simp at hb, rfl⟩
        case round =>
          obtain ⟨i, hi, rfl, m, rfl, HM, HD, rfl⟩ := hrel
          have hm : m < 100000000000000000 := by
            have h1 := dig_bound _ HD.out
            have h2 : (u.data.toList.take i).length ≤ 17 := by rw [List.length_take]; omega
            have h3 : 10 ^ (u.data.toList.take i).length ≤ 10 ^ 17 := Nat.pow_le_pow_right (by decide) h2
            rw [HM.out]
            omega
          by_cases hlt : i < u.size
          · have i0 : (0 : Int) ≤ (i : Int) := by omega
            have i1 : (i : Int) < (u.size : Int) := by omega
            have HBI := Lib.hid (bytes_get hlt)
            obtain ⟨b, hb⟩ : ∃ b, b = u[i] := ⟨_, rfl⟩
            have hb256 := b.toNat_lt
            rw [← hb] at HBI
            by_cases hdig : isDig b = true
            · have hd2 := hdig
              unfold isDig at hd2
              simp only [Bool.and_eq_true, decide_eq_true_eq] at hd2
              have e0 : ¬ ((u[i].toNat : Nat) : Int) < 48 := by rw [← hb]; omega
              have e3 : ¬ (57 : Int) < ((u[i].toNat : Nat) : Int) := by rw [← hb]; omega
              have e4 : ¬ u[i].toNat < 48 := by rw [← hb]; omega
              have e5 : ¬ 57 < u[i].toNat := by rw [← hb]; omega
              have e1 : IntKind.u8.wrap ((u[i].toNat : Int) - 48) = (u[i].toNat : Int) - 48 := by rw [← hb]; exact IntWalk.u8_in _ (by omega)
              have hb' := Lib.hid hb
              have HDG := Lib.hid hdig
              have HD2 := Lib.hid hd2
              clear hb hdig hd2
              go_wp2_with fail
              go_roundg (gk - 1)
              case measure => omega
              case rel =>
                have hb := hb'.out
                have hd2 := HD2.out
                refine ⟨i + 1, by omega, by go_num, 10 * m + (b.toNat - 48), ?_, ?_, ?_, rfl⟩
                · rw [← hb]
                  first
                    | exact congrArg (Value.int .i64) (by omega)
                    | (rw [Go.IntWalk.wrap64_in ((b.toNat : Int) - 48) (by omega), Go.IntWalk.wrap64_in _ (by omega)]; exact congrArg (Value.int .i64) (by omega))
                    | (rw [Go.IntWalk.wrap64_in ((m : Int) * 10) (by omega), Go.IntWalk.wrap64_in ((b.toNat : Int) - 48) (by omega), Go.IntWalk.wrap64_in _ (by omega)]; exact congrArg (Value.int .i64) (by omega))
                · show _ = _
                  rw [dig_take HBI.out, HM.out]
                · intro x hx
                  rw [List.take_add_one, HBI.out] at hx
                  rcases List.mem_append.1 hx with hx | hx
                  · exact HD.out x hx
                  · simp at hx
                    rw [hx]
                    exact HDG.out
            · have hf : isDig b = false := by simpa using hdig
              have EN : Hid (numBody false u.data.toList = none) := by
                show _ = _
                rw [E.out, if_neg]
                intro hall
                have := List.all_eq_true.1 hall b (List.mem_of_getElem? HBI.out)
                rw [hf] at this
                cases this
              clear E
              have E := EN
              unfold isDig at hf
              simp only [Bool.and_eq_false_iff, decide_eq_false_iff_not] at hf
              by_cases h1 : b.toNat < 48
              · have e0 : ((u[i].toNat : Nat) : Int) < 48 := by rw [← hb]; omega
                have e1 : u[i].toNat < 48 := by rw [← hb]; omega
                clear hb hdig hf EN h1
                go_wp2_with fail
                exact bodyPost_ret (v := .tuple #[.int .i64 0, .bool false]) (by simp [results, Tryd.results62, go_sem]) rfl ⟨by rw [EE.out, E.out]; rfl, rfl⟩
              · have e0 : ¬ ((u[i].toNat : Nat) : Int) < 48 := by rw [← hb]; omega
                have e3 : (57 : Int) < ((u[i].toNat : Nat) : Int) := by rw [← hb]; omega
                have e4 : ¬ u[i].toNat < 48 := by rw [← hb]; omega
                have e5 : 57 < u[i].toNat := by rw [← hb]; omega
                clear hb hdig hf EN h1
                go_wp2_with fail
                exact bodyPost_ret (v := .tuple #[.int .i64 0, .bool false]) (by simp [results, Tryd.results62, go_sem]) rfl ⟨by rw [EE.out, E.out]; rfl, rfl⟩
          · have hit : i = u.size := by omega
            have htk : u.data.toList.take i = u.data.toList := List.take_of_length_le (by rw [HL.out]; omega)
            rw [htk] at HM HD
            have EN : Hid (numBody false u.data.toList = some (if false = true then -(m : Int) else (m : Int))) := by
              show _ = _
              rw [E.out, if_pos (List.all_eq_true.2 HD.out), HM.out]
              try simp
            have hw : IntKind.i64.wrap (-(m : Int)) = -(m : Int) := IntWalk.i64_in _ (by omega)
            clear hit htk
            go_wp2_with fail
            exact bodyPost_ret (v := .tuple #[.int .i64 (if false = true then -(m : Int) else (m : Int)), .bool true]) (by simp [results, Tryd.results62, go_sem]) rfl ⟨by rw [EE.out, EN.out]; rfl, rfl⟩

end Go.Proofs.YtlchipjckgaclaaDoor

/- A pattern's text tells which pattern it is of: plain law. -/
namespace Go.Proofs.YtlchipjckgaclaaDoor
set_option linter.unusedSimpArgs false
set_option linter.unusedVariables false
set_option maxRecDepth 100000

def okSp (x : Sp) : Prop := 0 ≤ x.lo ∧ 0 ≤ x.hi
theorem ok_sp {xs : List Sp} (h : setOk xs = true) : ∀ x ∈ xs, okSp x := fun x hx => by
  have := ok_go (show setOkGo none xs = true from h) x hx
  unfold okSp
  omega
theorem span_chars {x : Sp} (h : okSp x) : ∀ b ∈ spanTxt x, isDig b = true ∨ b = 45 := by
  intro b hb
  unfold spanTxt at hb
  rw [itoa_nat h.1, itoa_nat h.2] at hb
  rcases List.mem_append.1 hb with hb | hb
  · exact .inl (dec_dig _ b hb)
  · split at hb
    · simp at hb
    · rcases List.mem_cons.1 hb with rfl | hb
      · exact .inr rfl
      · exact .inl (dec_dig _ b hb)
theorem span_eq {x y : Sp} (hx : okSp x) (hy : okSp y) (h : spanTxt x = spanTxt y) : x = y := by
  unfold spanTxt at h
  rw [itoa_nat hx.1, itoa_nat hx.2, itoa_nat hy.1, itoa_nat hy.2] at h
  have f : ∀ z : Sp, (if z.hi = z.lo then [] else 45 :: Lib.decDigits z.hi.toNat) = ([] : List UInt8) ∨ ∃ u, (if z.hi = z.lo then [] else 45 :: Lib.decDigits z.hi.toNat) = 45 :: u := fun z => by
    split
    · exact .inl rfl
    · exact .inr ⟨_, rfl⟩
  obtain ⟨e1, e2⟩ := word_eq (sep := 45) (not_dig (dec_dig _) (by decide)) (not_dig (dec_dig _) (by decide)) (f x) (f y) h
  have hlo := dec_inj e1
  obtain ⟨xl, xh⟩ := x
  obtain ⟨yl, yh⟩ := y
  unfold okSp at hx hy
  simp only at hlo e2 hx hy
  have hl : xl = yl := by omega
  subst hl
  have hh : xh = yh := by
    split at e2
    · rename_i h1
      split at e2
      · rename_i h2; rw [h1, h2]
      · cases e2
    · split at e2
      · cases e2
      · injection e2 with _ e2
        have := dec_inj e2
        omega
  rw [hh]
theorem mem_tail {sep b : UInt8} : ∀ {ws : List (List UInt8)}, b ∈ Lib.joinTail [sep] ws → b = sep ∨ ∃ w ∈ ws, b ∈ w
  | [], h => by simp [Lib.joinTail] at h
  | w :: ws, h => by
    have e : Lib.joinTail [sep] (w :: ws) = sep :: (w ++ Lib.joinTail [sep] ws) := by simp [Lib.joinTail]
    rw [e] at h
    rcases List.mem_cons.1 h with h | h
    · exact .inl h
    · rcases List.mem_append.1 h with h | h
      · exact .inr ⟨w, by simp, h⟩
      · rcases mem_tail h with h | ⟨v, hv, h⟩
        · exact .inl h
        · exact .inr ⟨v, by simp [hv], h⟩
theorem mem_join {sep b : UInt8} {ws : List (List UInt8)} (h : b ∈ Lib.join ws [sep]) : b = sep ∨ ∃ w ∈ ws, b ∈ w := by
  cases ws with
  | nil => rw [Lib.join_nil] at h; cases h
  | cons w ws =>
    rw [Lib.join_cons] at h
    rcases List.mem_append.1 h with h | h
    · exact .inr ⟨w, by simp, h⟩
    · rcases mem_tail h with h | ⟨v, hv, h⟩
      · exact .inl h
      · exact .inr ⟨v, by simp [hv], h⟩
theorem acc_chars {xs : List Sp} (h : ∀ x ∈ xs, okSp x) : ∀ b ∈ accTxt xs, isDig b = true ∨ b = 45 ∨ b = 44 := by
  intro b hb
  unfold accTxt at hb
  rcases mem_join hb with e | ⟨w, hw, hb⟩
  · exact .inr (.inr e)
  · obtain ⟨x, hx, rfl⟩ := List.mem_map.1 hw
    rcases span_chars (h x hx) b hb with h1 | h1
    · exact .inl h1
    · exact .inr (.inl h1)
theorem set_no32 {xs : List Sp} (h : setOk xs = true) : (32 : UInt8) ∉ setTxt xs := by
  intro hb
  unfold setTxt at hb
  split at hb
  · revert hb; decide
  · rcases acc_chars (ok_sp h) _ hb with h1 | h1 | h1 <;> revert h1 <;> decide
theorem map_inj {xs ys : List Sp} (hx : ∀ x ∈ xs, okSp x) (hy : ∀ x ∈ ys, okSp x) (h : xs.map spanTxt = ys.map spanTxt) : xs = ys := by
  induction xs generalizing ys with
  | nil => cases ys with
    | nil => rfl
    | cons y ys => cases h
  | cons x xs ih => cases ys with
    | nil => cases h
    | cons y ys =>
      rw [List.map_cons, List.map_cons] at h
      injection h with e1 e2
      rw [span_eq (hx x (by simp)) (hy y (by simp)) e1, ih (fun z hz => hx z (by simp [hz])) (fun z hz => hy z (by simp [hz])) e2]
theorem set_eq {xs ys : List Sp} (hx : setOk xs = true) (hy : setOk ys = true) (h : setTxt xs = setTxt ys) : xs = ys := by
  have no : ∀ zs : List Sp, setOk zs = true → ([110, 111] : List UInt8) ≠ accTxt zs := fun zs hz e => by
    have h1 : (110 : UInt8) ∈ accTxt zs := by rw [← e]; simp
    rcases acc_chars (ok_sp hz) _ h1 with h1 | h1 | h1 <;> revert h1 <;> decide
  unfold setTxt at h
  split at h
  · rename_i h1
    split at h
    · rename_i h2
      rw [List.length_eq_zero_iff.1 h1, List.length_eq_zero_iff.1 h2]
    · exact absurd h (no ys hy)
  · rename_i h1
    split at h
    · exact absurd h.symm (no xs hx)
    · rename_i h2
      have n44 : ∀ zs : List Sp, setOk zs = true → ∀ w ∈ zs.map spanTxt, (44 : UInt8) ∉ w := fun zs hz w hw hb => by
        obtain ⟨x, hxx, rfl⟩ := List.mem_map.1 hw
        rcases span_chars (ok_sp hz x hxx) _ hb with h1 | h1 <;> revert h1 <;> decide
      refine map_inj (ok_sp hx) (ok_sp hy) (join_eq (n44 xs hx) (n44 ys hy) ?_ ?_ h)
      · intro e; rw [List.map_eq_nil_iff] at e; rw [e] at h1; exact h1 rfl
      · intro e; rw [List.map_eq_nil_iff] at e; rw [e] at h2; exact h2 rfl

/-! ### words of patterns -/
def kind7 (k : Int) : Prop := k = 1 ∨ k = 2 ∨ k = 3 ∨ k = 4 ∨ k = 5 ∨ k = 6 ∨ k = 7
theorem kind_of {d : Nat} {k : Int} {s : List Sp} {ks : List Rex} (h : formed d (.mk k s ks) = true) : kind7 k := by
  rcases kidsOf_cases (formed_node h).1 with ⟨e, _⟩ | ⟨e, _⟩ | ⟨e, _⟩ <;> (unfold kind7; omega)
theorem kw_no32 {k : Int} (h : kind7 k) : (32 : UInt8) ∉ kw k := by
  rcases h with rfl | rfl | rfl | rfl | rfl | rfl | rfl <;> decide
theorem kw_inj {k j : Int} (h : kind7 k) (h' : kind7 j) (e : kw k = kw j) : k = j := by
  rcases h with rfl | rfl | rfl | rfl | rfl | rfl | rfl <;> rcases h' with rfl | rfl | rfl | rfl | rfl | rfl | rfl <;> first | rfl | (exfalso; revert e; decide)
theorem words_no32 (r : Rex) : ∀ d, formed d r = true → ∀ w ∈ wordsOf r, (32 : UInt8) ∉ w := by
  refine Rex.ind (p := fun r => ∀ d, formed d r = true → ∀ w ∈ wordsOf r, (32 : UInt8) ∉ w) (fun k s ks ih => ?_) r
  intro d hd w hw
  obtain ⟨_, _, hok, _, hfk⟩ := formed_node hd
  rw [wordsOf] at hw
  rcases List.mem_cons.1 hw with rfl | hw
  · exact kw_no32 (kind_of hd)
  · rcases List.mem_append.1 hw with hw | hw
    · split at hw
      · rw [List.mem_singleton.1 hw]; exact set_no32 hok
      · simp at hw
    · have hL : ∀ l : List Rex, (∀ r ∈ l, r ∈ ks) → ∀ w ∈ wordsL l, (32 : UInt8) ∉ w := by
        intro l
        induction l with
        | nil => intro _ w hw; simp [wordsL] at hw
        | cons x l ihl =>
          intro hl w hw
          rw [wordsL] at hw
          rcases List.mem_append.1 hw with hw | hw
          · exact ih x (hl x (by simp)) (d - 1) (hfk x (hl x (by simp))) w hw
          · exact ihl (fun r hr => hl r (by simp [hr])) w hw
      exact hL ks (fun r hr => hr) w hw
def ReadsBack (r : Rex) : Prop := ∀ (d d' : Nat) (r' : Rex) (t t' : List (List UInt8)), formed d r = true → formed d' r' = true → wordsOf r ++ t = wordsOf r' ++ t' → r = r' ∧ t = t'
theorem wordsL_eq : ∀ (ks ks' : List Rex) (d d' : Nat) (t t' : List (List UInt8)), (∀ r ∈ ks, ReadsBack r) → (∀ r ∈ ks, formed d r = true) → (∀ r ∈ ks', formed d' r = true) → ks.length = ks'.length → wordsL ks ++ t = wordsL ks' ++ t' → ks = ks' ∧ t = t'
  | [], [], _, _, t, t', _, _, _, _, h => ⟨rfl, by simpa [wordsL] using h⟩
  | [], _ :: _, _, _, _, _, _, _, _, hl, _ => by simp at hl
  | _ :: _, [], _, _, _, _, _, _, _, hl, _ => by simp at hl
  | r :: ks, r' :: ks', d, d', t, t', hr, hf, hf', hl, h => by
    rw [wordsL, wordsL, List.append_assoc, List.append_assoc] at h
    obtain ⟨e1, e2⟩ := hr r (by simp) d d' r' _ _ (hf r (by simp)) (hf' r' (by simp)) h
    obtain ⟨e3, e4⟩ := wordsL_eq ks ks' d d' t t' (fun x hx => hr x (by simp [hx])) (fun x hx => hf x (by simp [hx])) (fun x hx => hf' x (by simp [hx])) (by simpa using hl) e2
    exact ⟨by rw [e1, e3], e4⟩
theorem reads_back (r : Rex) : ReadsBack r := by
  refine Rex.ind (p := ReadsBack) (fun k s ks ih => ?_) r
  intro d d' r' t t' hd hd' h
  obtain ⟨k', s', ks'⟩ := r'
  obtain ⟨hk, hs, hok, _, hfk⟩ := formed_node hd
  obtain ⟨hk', hs', hok', _, hfk'⟩ := formed_node hd'
  rw [wordsOf, wordsOf, List.cons_append, List.cons_append] at h
  injection h with e1 e2
  have ek := kw_inj (kind_of hd) (kind_of hd') e1
  subst ek
  have hlen : ks.length = ks'.length := by omega
  by_cases h1 : k = 1
  · rw [if_pos h1, if_pos h1, List.append_assoc, List.append_assoc, List.singleton_append, List.singleton_append] at e2
    injection e2 with e3 e4
    have es := set_eq hok hok' e3
    obtain ⟨e5, e6⟩ := wordsL_eq ks ks' (d - 1) (d' - 1) t t' ih hfk hfk' hlen e4
    exact ⟨by rw [es, e5], e6⟩
  · rw [if_neg h1, if_neg h1, List.nil_append, List.nil_append] at e2
    obtain ⟨e5, e6⟩ := wordsL_eq ks ks' (d - 1) (d' - 1) t t' ih hfk hfk' hlen e2
    have es : s = s' := by rw [hs.resolve_left h1, hs'.resolve_left h1]
    exact ⟨by rw [es, e5], e6⟩
theorem txt_inj {a b : Rex} {d d' : Nat} (ha : formed d a = true) (hb : formed d' b = true) (h : rexTxt a = rexTxt b) : a = b := by
  have hne : ∀ r : Rex, wordsOf r ≠ [] := fun r => by
    obtain ⟨k, s, ks⟩ := r
    rw [wordsOf]
    simp
  have e := join_eq (words_no32 a d ha) (words_no32 b d' hb) (hne a) (hne b) h
  exact (reads_back a d d' b [] [] ha hb (by rw [e])).1

end Go.Proofs.YtlchipjckgaclaaDoor

/- What the two number readers say of written numbers: plain law. -/
namespace Go.Proofs.YtlchipjckgaclaaDoor
set_option linter.unusedSimpArgs false
set_option linter.unusedVariables false
set_option maxRecDepth 100000

theorem dec_ne (u : Nat) : Lib.decDigits u ≠ [] := fun h => by
  have := congrArg List.length h
  rw [Lib.decDigits_length, Lib.nDigits] at this
  split at this <;> simp at this
theorem dec_head (u : Nat) : u ≠ 0 → (Lib.decDigits u).head? ≠ some 48 := by
  induction u using Nat.strongRecOn with
  | ind u ih =>
    intro hu h
    by_cases h1 : u < 10
    · rw [Lib.decDigits, dif_pos h1] at h
      injection h with h
      have := congrArg UInt8.toNat h
      rw [ofNat_dig h1] at this
      have e48 : (48 : UInt8).toNat = 48 := rfl
      omega
    · rw [Lib.decDigits, dif_neg h1] at h
      refine ih (u / 10) (by omega) (by omega) ?_
      cases hd : Lib.decDigits (u / 10) with
      | nil => exact absurd hd (dec_ne _)
      | cons a l => rw [hd] at h; exact h
theorem dec_short {u : Nat} (h : u < 1000) : (Lib.decDigits u).length ≤ 3 := by
  rw [Lib.decDigits_length]
  by_cases h1 : u < 10
  · rw [Lib.nDigits_small h1]; omega
  · rw [Lib.nDigits_big h1]
    by_cases h2 : u / 10 < 10
    · rw [Lib.nDigits_small h2]; omega
    · rw [Lib.nDigits_big h2, Lib.nDigits_small (by omega)]
      omega
theorem dec_long {u : Nat} (h : 1 < (Lib.decDigits u).length) : u ≠ 0 := fun e => by
  subst e
  rw [Lib.decDigits_length, Lib.nDigits_small (by decide)] at h
  omega
theorem natural_dec {u : Nat} (h : u < 1000) : natural (Lib.decDigits u) = some u := by
  have hs := dec_short h
  have hp : 1 ≤ (Lib.decDigits u).length := List.length_pos_iff.2 (dec_ne u)
  rw [natural_of, if_pos (List.all_eq_true.2 (dec_dig u)), dec_val]
  rintro (h1 | h1 | ⟨h1, h2⟩)
  · omega
  · omega
  · exact dec_head u (dec_long h2) h1
theorem num_dec {u : Nat} (h : u < 1000) : numOf (Lib.decDigits u) = some (u : Int) := by
  have hs := dec_short h
  have hp : 1 ≤ (Lib.decDigits u).length := List.length_pos_iff.2 (dec_ne u)
  have h45 : (Lib.decDigits u).head? ≠ some 45 := fun e => by
    have hm : (45 : UInt8) ∈ Lib.decDigits u := List.mem_of_head? e
    have := dec_dig u _ hm
    revert this
    decide
  rw [numOf, if_neg h45, numBody_of, if_pos (List.all_eq_true.2 (dec_dig u)), dec_val]
  · rfl
  · rintro (h1 | h1 | ⟨h1, h2 | h2⟩)
    · omega
    · omega
    · exact dec_head u (dec_long h2) h1
    · cases h2
/-- what is read is no great number -/
theorem natural_lt {l : List UInt8} {n : Nat} (h : natural l = some n) : n < 1000000 := by
  unfold natural at h
  split at h
  · cases h
  · rename_i h1
    split at h
    · rename_i h2
      injection h with h
      have h3 := dig_bound l (List.all_eq_true.1 h2)
      have h4 : l.length ≤ 6 := by omega
      have h5 : 10 ^ l.length ≤ 10 ^ 6 := Nat.pow_le_pow_right (by decide) h4
      omega
    · cases h
theorem body_in {neg : Bool} {l : List UInt8} {n : Int} (h : numBody neg l = some n) : in64 n := by
  unfold numBody at h
  split at h
  · cases h
  · rename_i h1
    split at h
    · rename_i h2
      injection h with h
      have h3 := dig_bound l (List.all_eq_true.1 h2)
      have h4 : l.length ≤ 17 := by omega
      have h5 : 10 ^ l.length ≤ 10 ^ 17 := Nat.pow_le_pow_right (by decide) h4
      unfold in64
      cases neg <;> simp at h <;> omega
    · cases h
theorem num_in {l : List UInt8} {n : Int} (h : numOf l = some n) : in64 n := by
  unfold numOf at h
  split at h
  · exact body_in h
  · exact body_in h

end Go.Proofs.YtlchipjckgaclaaDoor
