/- Texts joined for the claims: Sn Sm Sk. -/
import Derived.Test.YtfeidjjabjejiaaGreatDoorG6
import Derived.Deep.CutBlock
/- Numbers read: natural of the program. -/
namespace Go.Proofs.YtfeidjjabjejiaaGreatDoor
set_option linter.unusedSimpArgs false
set_option linter.unusedVariables false
set_option maxRecDepth 100000
open Go.RowKit

def natural (l : List UInt8) : Option Nat := if l.length < 1 ∨ 6 < l.length ∨ (l.head? = some 48 ∧ 1 < l.length) then none else if l.all isDig then some (digVal l) else none
theorem natural_no1 {l : List UInt8} (h : l.length < 1 ∨ 6 < l.length ∨ (l.head? = some 48 ∧ 1 < l.length)) : natural l = none := if_pos h
theorem natural_of {l : List UInt8} (h : ¬ (l.length < 1 ∨ 6 < l.length ∨ (l.head? = some 48 ∧ 1 < l.length))) : natural l = if l.all isDig then some (digVal l) else none := if_neg h
abbrev natV (o : Option Nat) : Value := .tuple #[.int .i64 ((o.getD 0 : Nat) : Int), .bool o.isSome]
theorem dig_take {l : List UInt8} {i : Nat} {b : UInt8} (h : l[i]? = some b) : digVal (l.take (i + 1)) = 10 * digVal (l.take i) + (b.toNat - 48) := by
  rw [List.take_add_one, h]
  exact dig_snoc _ _
theorem dig_bound : ∀ (l : List UInt8), (∀ b ∈ l, isDig b = true) → digVal l < 10 ^ l.length := by
  intro l
  have key : ∀ n (l : List UInt8), l.length = n → (∀ b ∈ l, isDig b = true) → digVal l < 10 ^ l.length := by
    intro n
    induction n with
    | zero => intro l hl _; rw [List.length_eq_zero_iff.1 hl]; decide
    | succ n ih =>
      intro l hl h
      rcases List.eq_nil_or_concat l with rfl | ⟨m, b, rfl⟩
      · simp at hl
      · rw [List.concat_eq_append] at hl h ⊢
        have hm : m.length = n := by simpa using hl
        have h1 := ih m hm fun x hx => h x (by simp [hx])
        have h2 := h b (by simp)
        unfold isDig at h2
        simp at h2
        rw [dig_snoc, List.length_append, List.length_singleton, Nat.pow_succ]
        omega
  exact key _ l rfl

set_option maxHeartbeats 2000000 in
theorem iNatural_c (t : ByteArray) (w : World) (hs : t.size ≤ 4294967280) :
    Calls Tryz.prog 149 #[.string t] w fun e w' => e = .returned (natV (natural t.data.toList)) ∧ w = w' := by
  have hl : t.data.toList.length = t.size := by rw [Array.length_toList]; rfl
  have HL := Lib.hid hl
  clear hl
  go_enter Tryz.func149, Tryz.ntmps149
  by_cases h1 : t.size = 0
  · have E : Hid (natural t.data.toList = none) := natural_no1 (.inl (by rw [HL.out]; omega))
    have g1 : (t.size : Int) < 1 := by omega
    have g2 : decide ((t.size : Int) < 1) = true := by simp; omega
    clear h1
    go_wp2_with fail
    exact bodyPost_ret (v := .tuple #[.int .i64 0, .bool false]) (by simp [results, Tryz.results149, go_sem]) rfl ⟨by rw [E.out]; rfl, rfl⟩
  by_cases h6 : 6 < t.size
  · have E : Hid (natural t.data.toList = none) := natural_no1 (.inr (.inl (by rw [HL.out]; omega)))
    have g0 : ¬ (t.size : Int) < 1 := by omega
    have g1 : (6 : Int) < (t.size : Int) := by omega
    clear h1 h6
    go_wp2_with fail
    exact bodyPost_ret (v := .tuple #[.int .i64 0, .bool false]) (by simp [results, Tryz.results149, go_sem]) rfl ⟨by rw [E.out]; rfl, rfl⟩
  have g0 : ¬ (t.size : Int) < 1 := by omega
  have g1 : ¬ (6 : Int) < (t.size : Int) := by omega
  have hs0 : 0 < t.size := by omega
  have hs0' : (0 : Int) < (t.size : Int) := by omega
  have HB : Hid (t.data.toList[0]? = some t[0]) := by show _ = _; rw [Array.getElem?_toList, Array.getElem?_eq_getElem hs0]; rfl
  have HH : Hid (t.data.toList.head? = some t[0]) := by show _ = _; rw [List.head?_eq_getElem?]; exact HB.out
  obtain ⟨c, hc⟩ : ∃ c, c = t[0] := ⟨_, rfl⟩
  rw [← hc] at HB HH
  have HC := Lib.hid hc
  by_cases h48 : c.toNat = 48
  · by_cases h2 : 1 < t.size
    · have E : Hid (natural t.data.toList = none) := natural_no1 (.inr (.inr ⟨by rw [HH.out]; exact congrArg some (UInt8.toNat_inj.1 h48), by rw [HL.out]; omega⟩))
      have d0 : ((t[0].toNat : Int) == 48) = true := by rw [← hc]; simp [h48]
      have d1 : (1 : Int) < (t.size : Int) := by omega
      clear h1 h6 h48 h2 hc
      go_wp2_with fail
      exact bodyPost_ret (v := .tuple #[.int .i64 0, .bool false]) (by simp [results, Tryz.results149, go_sem]) rfl ⟨by rw [E.out]; rfl, rfl⟩
    · have E := Lib.hid (natural_of (l := t.data.toList) (by rw [HL.out]; omega))
      have d0 : ((t[0].toNat : Int) == 48) = true := by rw [← hc]; simp [h48]
      have d1 : ¬ (1 : Int) < (t.size : Int) := by omega
      clear h1 h6 h48 h2 hc
      have hsz : t.size ≤ 6 := by omega
      clear g0 g1
      go_wp2_with fail
      clear d0
      go_loopg [4, 5] t.size (fun n v4 v5 wr => ∃ i : Nat, i + n = t.size ∧ v5 = .int .i64 i ∧ ∃ m : Nat, v4 = .int .i64 m ∧ Hid (m = digVal (t.data.toList.take i)) ∧ Hid (∀ b ∈ t.data.toList.take i, isDig b = true) ∧ w = wr)
      case atStart => exact ⟨0, by omega, rfl, 0, rfl, rfl, fun b hb => by simp at hb, rfl⟩
      case round =>
        obtain ⟨i, hi, rfl, m, rfl, HM, HD, rfl⟩ := hrel
        by_cases hlt : i < t.size
        · have i0 : (0 : Int) ≤ (i : Int) := by omega
          have i1 : (i : Int) < (t.size : Int) := by omega
          have HBI : Hid (t.data.toList[i]? = some t[i]) := by show _ = _; rw [Array.getElem?_toList, Array.getElem?_eq_getElem hlt]; rfl
          have hm : m < 1000000 := by
            have h1 := dig_bound _ HD.out
            have h2 : (t.data.toList.take i).length ≤ 6 := by rw [List.length_take]; omega
            have h3 : 10 ^ (t.data.toList.take i).length ≤ 10 ^ 6 := Nat.pow_le_pow_right (by decide) h2
            rw [HM.out]
            omega
          obtain ⟨b, hb⟩ : ∃ b, b = t[i] := ⟨_, rfl⟩
          have hb256 := b.toNat_lt
          rw [← hb] at HBI
          by_cases hdig : isDig b = true
          · have hd2 := hdig
            unfold isDig at hd2
            simp only [Bool.and_eq_true, decide_eq_true_eq] at hd2
            have e0 : (decide ((48 : Int) ≤ ((t[i].toNat : Nat) : Int)) && decide (((t[i].toNat : Nat) : Int) ≤ 57)) = true := by rw [← hb]; simp; omega
            have e1 : IntKind.u8.wrap ((t[i].toNat : Int) - 48) = (t[i].toNat : Int) - 48 := by rw [← hb]; exact IntWalk.u8_in _ (by omega)
            have e2 : IntKind.i64.wrap (t[i].toNat : Int) = (t[i].toNat : Int) := by rw [← hb]; exact IntWalk.i64_in _ (by omega)
            have hb' := Lib.hid hb
            have HDG := Lib.hid hdig
            have HD2 := Lib.hid hd2
            clear hb hdig hd2
            go_wp2_with (go_at_call 55; refine (in_c _ _ _ _).mono ?_; rintro e w' ⟨rfl, rfl⟩)
            go_roundg (gk - 1)
            case measure => omega
            case rel =>
              have hb := hb'.out
              have hd2 := HD2.out
              refine ⟨i + 1, by omega, by go_num, 10 * m + (b.toNat - 48), ?_, ?_, ?_, rfl⟩
              · rw [← hb, Go.IntWalk.wrap64_in ((b.toNat : Int) - 48) (by omega), Go.IntWalk.wrap64_in _ (by omega)]
                exact congrArg (Value.int .i64) (by omega)
              · show _ = _
                rw [dig_take HBI.out, HM.out]
              · intro x hx
                rw [List.take_add_one, HBI.out] at hx
                rcases List.mem_append.1 hx with hx | hx
                · exact HD.out x hx
                · simp at hx
                  rw [hx]
                  exact HDG.out
          · have hf : isDig b = false := by simpa using hdig
            have e0 : (decide ((48 : Int) ≤ ((t[i].toNat : Nat) : Int)) && decide (((t[i].toNat : Nat) : Int) ≤ 57)) = false := by
              rw [← hb]
              unfold isDig at hf
              simp at hf ⊢
              omega
            have e2 : IntKind.i64.wrap (t[i].toNat : Int) = (t[i].toNat : Int) := by rw [← hb]; exact IntWalk.i64_in _ (by omega)
            have EN : Hid (natural t.data.toList = none) := by
              show _ = _
              rw [E.out, if_neg]
              intro hall
              have := List.all_eq_true.1 hall b (List.mem_of_getElem? HBI.out)
              rw [hf] at this
              cases this
            clear E
            have E := EN
            clear hb hdig hf EN
            go_wp2_with (go_at_call 55; refine (in_c _ _ _ _).mono ?_; rintro e w' ⟨rfl, rfl⟩)
            exact bodyPost_ret (v := .tuple #[.int .i64 0, .bool false]) (by simp [results, Tryz.results149, go_sem]) rfl ⟨by rw [E.out]; rfl, rfl⟩
        · have hit : i = t.size := by omega
          have htk : t.data.toList.take i = t.data.toList := List.take_of_length_le (by rw [HL.out]; omega)
          rw [htk] at HM HD
          have EN : Hid (natural t.data.toList = some m) := by
            show _ = _
            rw [E.out, if_pos (List.all_eq_true.2 HD.out), HM.out]
          clear hit htk
          go_wp2_with fail
          exact bodyPost_ret (v := .tuple #[.int .i64 m, .bool true]) (by simp [results, Tryz.results149, go_sem]) rfl ⟨by rw [EN.out]; rfl, rfl⟩
  · have E := Lib.hid (natural_of (l := t.data.toList) (by
      rw [HL.out, HH.out]
      rintro (h | h | ⟨h, _⟩)
      · omega
      · omega
      · injection h with h; exact h48 (by rw [h]; rfl)))
    have d0 : ((t[0].toNat : Int) == 48) = false := by rw [← hc, beq_eq_false_iff_ne]; omega
    clear h1 h48 hc
    have hsz : t.size ≤ 6 := by omega
    clear g0 g1
    go_wp2_with fail
    clear d0
    go_loopg [4, 5] t.size (fun n v4 v5 wr => ∃ i : Nat, i + n = t.size ∧ v5 = .int .i64 i ∧ ∃ m : Nat, v4 = .int .i64 m ∧ Hid (m = digVal (t.data.toList.take i)) ∧ Hid (∀ b ∈ t.data.toList.take i, isDig b = true) ∧ w = wr)
    case atStart => exact ⟨0, by omega, rfl, 0, rfl, rfl, fun b hb => by simp at hb, rfl⟩
    case round =>
      obtain ⟨i, hi, rfl, m, rfl, HM, HD, rfl⟩ := hrel
      by_cases hlt : i < t.size
      · have i0 : (0 : Int) ≤ (i : Int) := by omega
        have i1 : (i : Int) < (t.size : Int) := by omega
        have HBI : Hid (t.data.toList[i]? = some t[i]) := by show _ = _; rw [Array.getElem?_toList, Array.getElem?_eq_getElem hlt]; rfl
        have hm : m < 1000000 := by
          have h1 := dig_bound _ HD.out
          have h2 : (t.data.toList.take i).length ≤ 6 := by rw [List.length_take]; omega
          have h3 : 10 ^ (t.data.toList.take i).length ≤ 10 ^ 6 := Nat.pow_le_pow_right (by decide) h2
          rw [HM.out]
          omega
        obtain ⟨b, hb⟩ : ∃ b, b = t[i] := ⟨_, rfl⟩
        have hb256 := b.toNat_lt
        rw [← hb] at HBI
        by_cases hdig : isDig b = true
        · have hd2 := hdig
          unfold isDig at hd2
          simp only [Bool.and_eq_true, decide_eq_true_eq] at hd2
          have e0 : (decide ((48 : Int) ≤ ((t[i].toNat : Nat) : Int)) && decide (((t[i].toNat : Nat) : Int) ≤ 57)) = true := by rw [← hb]; simp; omega
          have e1 : IntKind.u8.wrap ((t[i].toNat : Int) - 48) = (t[i].toNat : Int) - 48 := by rw [← hb]; exact IntWalk.u8_in _ (by omega)
          have e2 : IntKind.i64.wrap (t[i].toNat : Int) = (t[i].toNat : Int) := by rw [← hb]; exact IntWalk.i64_in _ (by omega)
          have hb' := Lib.hid hb
          have HDG := Lib.hid hdig
          have HD2 := Lib.hid hd2
          clear hb hdig hd2
          go_wp2_with (go_at_call 55; refine (in_c _ _ _ _).mono ?_; rintro e w' ⟨rfl, rfl⟩)
          go_roundg (gk - 1)
          case measure => omega
          case rel =>
            have hb := hb'.out
            have hd2 := HD2.out
            refine ⟨i + 1, by omega, by go_num, 10 * m + (b.toNat - 48), ?_, ?_, ?_, rfl⟩
            · rw [← hb, Go.IntWalk.wrap64_in ((b.toNat : Int) - 48) (by omega), Go.IntWalk.wrap64_in _ (by omega)]
              exact congrArg (Value.int .i64) (by omega)
            · show _ = _
              rw [dig_take HBI.out, HM.out]
            · intro x hx
              rw [List.take_add_one, HBI.out] at hx
              rcases List.mem_append.1 hx with hx | hx
              · exact HD.out x hx
              · simp at hx
                rw [hx]
                exact HDG.out
        · have hf : isDig b = false := by simpa using hdig
          have e0 : (decide ((48 : Int) ≤ ((t[i].toNat : Nat) : Int)) && decide (((t[i].toNat : Nat) : Int) ≤ 57)) = false := by
            rw [← hb]
            unfold isDig at hf
            simp at hf ⊢
            omega
          have e2 : IntKind.i64.wrap (t[i].toNat : Int) = (t[i].toNat : Int) := by rw [← hb]; exact IntWalk.i64_in _ (by omega)
          have EN : Hid (natural t.data.toList = none) := by
            show _ = _
            rw [E.out, if_neg]
            intro hall
            have := List.all_eq_true.1 hall b (List.mem_of_getElem? HBI.out)
            rw [hf] at this
            cases this
          clear E
          have E := EN
          clear hb hdig hf EN
          go_wp2_with (go_at_call 55; refine (in_c _ _ _ _).mono ?_; rintro e w' ⟨rfl, rfl⟩)
          exact bodyPost_ret (v := .tuple #[.int .i64 0, .bool false]) (by simp [results, Tryz.results149, go_sem]) rfl ⟨by rw [E.out]; rfl, rfl⟩
      · have hit : i = t.size := by omega
        have htk : t.data.toList.take i = t.data.toList := List.take_of_length_le (by rw [HL.out]; omega)
        rw [htk] at HM HD
        have EN : Hid (natural t.data.toList = some m) := by
          show _ = _
          rw [E.out, if_pos (List.all_eq_true.2 HD.out), HM.out]
        clear hit htk
        go_wp2_with fail
        exact bodyPost_ret (v := .tuple #[.int .i64 m, .bool true]) (by simp [results, Tryz.results149, go_sem]) rfl ⟨by rw [EN.out]; rfl, rfl⟩

end Go.Proofs.YtfeidjjabjejiaaGreatDoor

/- Numbers read: l15Num of the reference. -/
namespace Go.Proofs.YtfeidjjabjejiaaGreatDoor
set_option linter.unusedSimpArgs false
set_option linter.unusedVariables false
set_option maxRecDepth 100000
open Go.RowKit

def numBody (neg : Bool) (l : List UInt8) : Option Int := if l.length < 1 ∨ 17 < l.length ∨ (l.head? = some 48 ∧ (1 < l.length ∨ neg = true)) then none else if l.all isDig then some (if neg then -(digVal l : Int) else (digVal l : Int)) else none
def numOf (l : List UInt8) : Option Int := if l.head? = some 45 then numBody true l.tail else numBody false l
theorem numBody_no {neg : Bool} {l : List UInt8} (h : l.length < 1 ∨ 17 < l.length ∨ (l.head? = some 48 ∧ (1 < l.length ∨ neg = true))) : numBody neg l = none := if_pos h
theorem numBody_of {neg : Bool} {l : List UInt8} (h : ¬ (l.length < 1 ∨ 17 < l.length ∨ (l.head? = some 48 ∧ (1 < l.length ∨ neg = true)))) : numBody neg l = if l.all isDig then some (if neg then -(digVal l : Int) else (digVal l : Int)) else none := if_neg h
abbrev numV (o : Option Int) : Value := .tuple #[.int .i64 (o.getD 0), .bool o.isSome]
theorem bytes_len (t : ByteArray) : t.data.toList.length = t.size := by rw [Array.length_toList]; rfl
theorem bytes_get {t : ByteArray} {i : Nat} (h : i < t.size) : t.data.toList[i]? = some t[i] := by rw [Array.getElem?_toList, Array.getElem?_eq_getElem h]; rfl

set_option maxHeartbeats 4000000 in
theorem sNum_c (t : ByteArray) (w : World) (hs : t.size ≤ 4294967280) :
    Calls Tryz.prog 155 #[.string t] w fun e w' => e = .returned (numV (numOf t.data.toList)) ∧ w = w' := by
  go_enter Tryz.func155, Tryz.ntmps155
  by_cases h45 : t.data.toList.head? = some 45
  · have h0 : 0 < t.size := by
      rcases Nat.eq_zero_or_pos t.size with h | h
      · rw [List.head?_eq_getElem?, List.getElem?_eq_none (by rw [bytes_len, h]; omega)] at h45; cases h45
      · exact h
    have EE : Hid (numOf t.data.toList = numBody true (t.extract 1 t.size).data.toList) := by
      show _ = _
      rw [numOf, if_pos h45]
      congr 1
      simp [List.drop_one]
      exact (List.take_of_length_le (by rw [List.length_tail, bytes_len]; omega)).symm
    have q0 : (0 : Int) < (t.size : Int) := by omega
    have q2 : ((t[0].toNat : Int) == 45) = true := by
      rw [List.head?_eq_getElem?, bytes_get h0] at h45
      injection h45 with h45
      rw [h45]
      rfl
    have q3 : (1 : Int) ≤ (t.size : Int) := by omega
    go_upto_region 4 with fail
    obtain ⟨u, hu⟩ : ∃ u, u = t.extract 1 t.size := ⟨_, rfl⟩
    have hus : u.size ≤ 4294967280 := by rw [hu]; simp; omega
    rw [← hu] at EE ⊢
    clear hu q0 q2 q3 hs
    have hs := hus
    have HL := Lib.hid (bytes_len u)
    by_cases h1 : u.size = 0
    · have E : Hid (numBody true u.data.toList = none) := numBody_no (.inl (by rw [HL.out]; omega))
      have g1 : ((u.size : Int) == 0) = true := by simp [h1]
      clear h1
      go_wp2_with fail
      exact bodyPost_ret (v := .tuple #[.int .i64 0, .bool false]) (by simp [results, Tryz.results155, go_sem]) rfl ⟨by rw [EE.out, E.out]; rfl, rfl⟩
    have g0 : ((u.size : Int) == 0) = false := by simp [h1]
    by_cases h6 : 17 < u.size
    · have E : Hid (numBody true u.data.toList = none) := numBody_no (.inr (.inl (by rw [HL.out]; omega)))
      have g1 : (17 : Int) < (u.size : Int) := by omega
      clear h1 h6
      go_wp2_with fail
      exact bodyPost_ret (v := .tuple #[.int .i64 0, .bool false]) (by simp [results, Tryz.results155, go_sem]) rfl ⟨by rw [EE.out, E.out]; rfl, rfl⟩
    have g1 : ¬ (17 : Int) < (u.size : Int) := by omega
    have hs0 : 0 < u.size := by omega
    have hs0' : (0 : Int) < (u.size : Int) := by omega
    have HB := Lib.hid (bytes_get hs0)
    have HH : Hid (u.data.toList.head? = some u[0]) := by show _ = _; rw [List.head?_eq_getElem?]; exact HB.out
    obtain ⟨c, hc⟩ : ∃ c, c = u[0] := ⟨_, rfl⟩
    rw [← hc] at HB HH
    by_cases h48 : c.toNat = 48
    · have d0 : ((u[0].toNat : Int) == 48) = true := by rw [← hc]; simp [h48]
      have E : Hid (numBody true u.data.toList = none) := numBody_no (.inr (.inr ⟨by rw [HH.out]; exact congrArg some (UInt8.toNat_inj.1 h48), .inr rfl⟩))
      by_cases h3 : 1 < u.size
      · have d1 : (1 : Int) < (u.size : Int) := by omega
        clear h1 h6 h48 h3 hc
        go_wp2_with fail
        exact bodyPost_ret (v := .tuple #[.int .i64 0, .bool false]) (by simp [results, Tryz.results155, go_sem]) rfl ⟨by rw [EE.out, E.out]; rfl, rfl⟩
      · have d1 : ¬ (1 : Int) < (u.size : Int) := by omega
        clear h1 h6 h48 h3 hc
        go_wp2_with fail
        exact bodyPost_ret (v := .tuple #[.int .i64 0, .bool false]) (by simp [results, Tryz.results155, go_sem]) rfl ⟨by rw [EE.out, E.out]; rfl, rfl⟩
    · have E := Lib.hid (numBody_of (neg := true) (l := u.data.toList) (by
        rw [HL.out, HH.out]
        rintro (h | h | ⟨h, _⟩)
        · omega
        · omega
        · injection h with h; exact h48 (by rw [h]; rfl)))
      have d0 : ((u[0].toNat : Int) == 48) = false := by rw [← hc, beq_eq_false_iff_ne]; omega
      clear h1 h48 hc
      have hsz : u.size ≤ 17 := by omega
      go_wp2_with fail
      clear d0 g0 g1
      go_loopg [5, 6] u.size (fun n v5 v6 wr => ∃ i : Nat, i + n = u.size ∧ v6 = .int .i64 i ∧ ∃ m : Nat, v5 = .int .i64 m ∧ Hid (m = digVal (u.data.toList.take i)) ∧ Hid (∀ b ∈ u.data.toList.take i, isDig b = true) ∧ w = wr)
      case atStart => exact ⟨0, by omega, rfl, 0, rfl, rfl, fun b hb => by simp at hb, rfl⟩
      case round =>
        obtain ⟨i, hi, rfl, m, rfl, HM, HD, rfl⟩ := hrel
        have hm : m < 100000000000000000 := by
          have h1 := dig_bound _ HD.out
          have h2 : (u.data.toList.take i).length ≤ 17 := by rw [List.length_take]; omega
          have h3 : 10 ^ (u.data.toList.take i).length ≤ 10 ^ 17 := Nat.pow_le_pow_right (by decide) h2
          rw [HM.out]
          omega
        by_cases hlt : i < u.size
        · have i0 : (0 : Int) ≤ (i : Int) := by omega
          have i1 : (i : Int) < (u.size : Int) := by omega
          have HBI := Lib.hid (bytes_get hlt)
          obtain ⟨b, hb⟩ : ∃ b, b = u[i] := ⟨_, rfl⟩
          have hb256 := b.toNat_lt
          rw [← hb] at HBI
          by_cases hdig : isDig b = true
          · have hd2 := hdig
            unfold isDig at hd2
            simp only [Bool.and_eq_true, decide_eq_true_eq] at hd2
            have e0 : ¬ ((u[i].toNat : Nat) : Int) < 48 := by rw [← hb]; omega
            have e3 : ¬ (57 : Int) < ((u[i].toNat : Nat) : Int) := by rw [← hb]; omega
            have e4 : ¬ u[i].toNat < 48 := by rw [← hb]; omega
            have e5 : ¬ 57 < u[i].toNat := by rw [← hb]; omega
            have e1 : IntKind.u8.wrap ((u[i].toNat : Int) - 48) = (u[i].toNat : Int) - 48 := by rw [← hb]; exact IntWalk.u8_in _ (by omega)
            have hb' := Lib.hid hb
            have HDG := Lib.hid hdig
            have HD2 := Lib.hid hd2
            clear hb hdig hd2
            go_wp2_with fail
            go_roundg (gk - 1)
            case measure => omega
            case rel =>
              have hb := hb'.out
              have hd2 := HD2.out
              refine ⟨i + 1, by omega, by go_num, 10 * m + (b.toNat - 48), ?_, ?_, ?_, rfl⟩
              · rw [← hb]
                first
                  | exact congrArg (Value.int .i64) (by omega)
                  | (rw [Go.IntWalk.wrap64_in ((b.toNat : Int) - 48) (by omega), Go.IntWalk.wrap64_in _ (by omega)]; exact congrArg (Value.int .i64) (by omega))
                  | (rw [Go.IntWalk.wrap64_in ((m : Int) * 10) (by omega), Go.IntWalk.wrap64_in ((b.toNat : Int) - 48) (by omega), Go.IntWalk.wrap64_in _ (by omega)]; exact congrArg (Value.int .i64) (by omega))
              · show _ = _
                rw [dig_take HBI.out, HM.out]
              · intro x hx
                rw [List.take_add_one, HBI.out] at hx
                rcases List.mem_append.1 hx with hx | hx
                · exact HD.out x hx
                · simp at hx
                  rw [hx]
                  exact HDG.out
          · have hf : isDig b = false := by simpa using hdig
            have EN : Hid (numBody true u.data.toList = none) := by
              show _ = _
              rw [E.out, if_neg]
              intro hall
              have := List.all_eq_true.1 hall b (List.mem_of_getElem? HBI.out)
              rw [hf] at this
              cases this
            clear E
            have E := EN
            unfold isDig at hf
            simp only [Bool.and_eq_false_iff, decide_eq_false_iff_not] at hf
            by_cases h1 : b.toNat < 48
            · have e0 : ((u[i].toNat : Nat) : Int) < 48 := by rw [← hb]; omega
              have e1 : u[i].toNat < 48 := by rw [← hb]; omega
              clear hb hdig hf EN h1
              go_wp2_with fail
              exact bodyPost_ret (v := .tuple #[.int .i64 0, .bool false]) (by simp [results, Tryz.results155, go_sem]) rfl ⟨by rw [EE.out, E.out]; rfl, rfl⟩
            · have e0 : ¬ ((u[i].toNat : Nat) : Int) < 48 := by rw [← hb]; omega
              have e3 : (57 : Int) < ((u[i].toNat : Nat) : Int) := by rw [← hb]; omega
              have e4 : ¬ u[i].toNat < 48 := by rw [← hb]; omega
              have e5 : 57 < u[i].toNat := by rw [← hb]; omega
              clear hb hdig hf EN h1
              go_wp2_with fail
              exact bodyPost_ret (v := .tuple #[.int .i64 0, .bool false]) (by simp [results, Tryz.results155, go_sem]) rfl ⟨by rw [EE.out, E.out]; rfl, rfl⟩
        · have hit : i = u.size := by omega
          have htk : u.data.toList.take i = u.data.toList := List.take_of_length_le (by rw [HL.out]; omega)
          rw [htk] at HM HD
          have EN : Hid (numBody true u.data.toList = some (if true = true then -(m : Int) else (m : Int))) := by
            show _ = _
            rw [E.out, if_pos (List.all_eq_true.2 HD.out), HM.out]
            try simp
          have hw : IntKind.i64.wrap (-(m : Int)) = -(m : Int) := IntWalk.i64_in _ (by omega)
          clear hit htk
          go_wp2_with fail
          exact bodyPost_ret (v := .tuple #[.int .i64 (if true = true then -(m : Int) else (m : Int)), .bool true]) (by simp [results, Tryz.results155, go_sem]) rfl ⟨by rw [EE.out, EN.out]; rfl, rfl⟩
  · have EE : Hid (numOf t.data.toList = numBody false t.data.toList) := if_neg h45
    obtain ⟨u, hu⟩ : ∃ u, u = t := ⟨_, rfl⟩
    rw [← hu] at h45 EE hs ⊢
    clear hu
    by_cases hz : u.size = 0
    · have q0 : ¬ (0 : Int) < (u.size : Int) := by omega
      have q1 : ¬ 0 < u.size := by omega
      go_upto_region 4 with fail
      clear q0 q1 hz
      have HL := Lib.hid (bytes_len u)
      by_cases h1 : u.size = 0
      · have E : Hid (numBody false u.data.toList = none) := numBody_no (.inl (by rw [HL.out]; omega))
        have g1 : ((u.size : Int) == 0) = true := by simp [h1]
        clear h1
        go_wp2_with fail
        exact bodyPost_ret (v := .tuple #[.int .i64 0, .bool false]) (by simp [results, Tryz.results155, go_sem]) rfl ⟨by rw [EE.out, E.out]; rfl, rfl⟩
      have g0 : ((u.size : Int) == 0) = false := by simp [h1]
      by_cases h6 : 17 < u.size
      · have E : Hid (numBody false u.data.toList = none) := numBody_no (.inr (.inl (by rw [HL.out]; omega)))
        have g1 : (17 : Int) < (u.size : Int) := by omega
        clear h1 h6
        go_wp2_with fail
        exact bodyPost_ret (v := .tuple #[.int .i64 0, .bool false]) (by simp [results, Tryz.results155, go_sem]) rfl ⟨by rw [EE.out, E.out]; rfl, rfl⟩
      have g1 : ¬ (17 : Int) < (u.size : Int) := by omega
      have hs0 : 0 < u.size := by omega
      have hs0' : (0 : Int) < (u.size : Int) := by omega
      have HB := Lib.hid (bytes_get hs0)
      have HH : Hid (u.data.toList.head? = some u[0]) := by show _ = _; rw [List.head?_eq_getElem?]; exact HB.out
      obtain ⟨c, hc⟩ : ∃ c, c = u[0] := ⟨_, rfl⟩
      rw [← hc] at HB HH
      by_cases h48 : c.toNat = 48
      · have d0 : ((u[0].toNat : Int) == 48) = true := by rw [← hc]; simp [h48]
        by_cases h3 : 1 < u.size
        · have E : Hid (numBody false u.data.toList = none) := numBody_no (.inr (.inr ⟨by rw [HH.out]; exact congrArg some (UInt8.toNat_inj.1 h48), by rw [HL.out]; exact .inl h3⟩))
          have d1 : (1 : Int) < (u.size : Int) := by omega
          clear h1 h6 h48 h3 hc
          go_wp2_with fail
          exact bodyPost_ret (v := .tuple #[.int .i64 0, .bool false]) (by simp [results, Tryz.results155, go_sem]) rfl ⟨by rw [EE.out, E.out]; rfl, rfl⟩
        · have d1 : ¬ (1 : Int) < (u.size : Int) := by omega
          have E : Hid (numBody false u.data.toList = if u.data.toList.all isDig then some (if false = true then -(digVal u.data.toList : Int) else (digVal u.data.toList : Int)) else none) := by
            refine numBody_of ?_
            rw [HL.out]
            rintro (h | h | ⟨_, h | h⟩)
            · omega
            · omega
            · omega
            · cases h
          clear h1 h6 h48 h3 hc
          have hsz : u.size ≤ 17 := by omega
          go_wp2_with fail
          clear d0 g0 g1
          go_loopg [5, 6] u.size (fun n v5 v6 wr => ∃ i : Nat, i + n = u.size ∧ v6 = .int .i64 i ∧ ∃ m : Nat, v5 = .int .i64 m ∧ Hid (m = digVal (u.data.toList.take i)) ∧ Hid (∀ b ∈ u.data.toList.take i, isDig b = true) ∧ w = wr)
          case atStart => exact ⟨0, by omega, rfl, 0, rfl, rfl, fun b hb => by simp at hb, rfl⟩
          case round =>
            obtain ⟨i, hi, rfl, m, rfl, HM, HD, rfl⟩ := hrel
            have hm : m < 100000000000000000 := by
              have h1 := dig_bound _ HD.out
              have h2 : (u.data.toList.take i).length ≤ 17 := by rw [List.length_take]; omega
              have h3 : 10 ^ (u.data.toList.take i).length ≤ 10 ^ 17 := Nat.pow_le_pow_right (by decide) h2
              rw [HM.out]
              omega
            by_cases hlt : i < u.size
            · have i0 : (0 : Int) ≤ (i : Int) := by omega
              have i1 : (i : Int) < (u.size : Int) := by omega
              have HBI := Lib.hid (bytes_get hlt)
              obtain ⟨b, hb⟩ : ∃ b, b = u[i] := ⟨_, rfl⟩
              have hb256 := b.toNat_lt
              rw [← hb] at HBI
              by_cases hdig : isDig b = true
              · have hd2 := hdig
                unfold isDig at hd2
                simp only [Bool.and_eq_true, decide_eq_true_eq] at hd2
                have e0 : ¬ ((u[i].toNat : Nat) : Int) < 48 := by rw [← hb]; omega
                have e3 : ¬ (57 : Int) < ((u[i].toNat : Nat) : Int) := by rw [← hb]; omega
                have e4 : ¬ u[i].toNat < 48 := by rw [← hb]; omega
                have e5 : ¬ 57 < u[i].toNat := by rw [← hb]; omega
                have e1 : IntKind.u8.wrap ((u[i].toNat : Int) - 48) = (u[i].toNat : Int) - 48 := by rw [← hb]; exact IntWalk.u8_in _ (by omega)
                have hb' := Lib.hid hb
                have HDG := Lib.hid hdig
                have HD2 := Lib.hid hd2
                clear hb hdig hd2
                go_wp2_with fail
                go_roundg (gk - 1)
                case measure => omega
                case rel =>
                  have hb := hb'.out
                  have hd2 := HD2.out
                  refine ⟨i + 1, by omega, by go_num, 10 * m + (b.toNat - 48), ?_, ?_, ?_, rfl⟩
                  · rw [← hb]
                    first
                      | exact congrArg (Value.int .i64) (by omega)
                      | (rw [Go.IntWalk.wrap64_in ((b.toNat : Int) - 48) (by omega), Go.IntWalk.wrap64_in _ (by omega)]; exact congrArg (Value.int .i64) (by omega))
                      | (rw [Go.IntWalk.wrap64_in ((m : Int) * 10) (by omega), Go.IntWalk.wrap64_in ((b.toNat : Int) - 48) (by omega), Go.IntWalk.wrap64_in _ (by omega)]; exact congrArg (Value.int .i64) (by omega))
                  · show _ = _
                    rw [dig_take HBI.out, HM.out]
                  · intro x hx
                    rw [List.take_add_one, HBI.out] at hx
                    rcases List.mem_append.1 hx with hx | hx
                    · exact HD.out x hx
                    · simp at hx
                      rw [hx]
                      exact HDG.out
              · have hf : isDig b = false := by simpa using hdig
                have EN : Hid (numBody false u.data.toList = none) := by
                  show _ = _
                  rw [E.out, if_neg]
                  intro hall
                  have := List.all_eq_true.1 hall b (List.mem_of_getElem? HBI.out)
                  rw [hf] at this
                  cases this
                clear E
                have E := EN
                unfold isDig at hf
                simp only [Bool.and_eq_false_iff, decide_eq_false_iff_not] at hf
                by_cases h1 : b.toNat < 48
                · have e0 : ((u[i].toNat : Nat) : Int) < 48 := by rw [← hb]; omega
                  have e1 : u[i].toNat < 48 := by rw [← hb]; omega
                  clear hb hdig hf EN h1
                  go_wp2_with fail
                  exact bodyPost_ret (v := .tuple #[.int .i64 0, .bool false]) (by simp [results, Tryz.results155, go_sem]) rfl ⟨by rw [EE.out, E.out]; rfl, rfl⟩
                · have e0 : ¬ ((u[i].toNat : Nat) : Int) < 48 := by rw [← hb]; omega
                  have e3 : (57 : Int) < ((u[i].toNat : Nat) : Int) := by rw [← hb]; omega
                  have e4 : ¬ u[i].toNat < 48 := by rw [← hb]; omega
                  have e5 : 57 < u[i].toNat := by rw [← hb]; omega
                  clear hb hdig hf EN h1
                  go_wp2_with fail
                  exact bodyPost_ret (v := .tuple #[.int .i64 0, .bool false]) (by simp [results, Tryz.results155, go_sem]) rfl ⟨by rw [EE.out, E.out]; rfl, rfl⟩
            · have hit : i = u.size := by omega
              have htk : u.data.toList.take i = u.data.toList := List.take_of_length_le (by rw [HL.out]; omega)
              rw [htk] at HM HD
              have EN : Hid (numBody false u.data.toList = some (if false = true then -(m : Int) else (m : Int))) := by
                show _ = _
                rw [E.out, if_pos (List.all_eq_true.2 HD.out), HM.out]
                try simp
              have hw : IntKind.i64.wrap (-(m : Int)) = -(m : Int) := IntWalk.i64_in _ (by omega)
              clear hit htk
              go_wp2_with fail
              exact bodyPost_ret (v := .tuple #[.int .i64 (if false = true then -(m : Int) else (m : Int)), .bool true]) (by simp [results, Tryz.results155, go_sem]) rfl ⟨by rw [EE.out, EN.out]; rfl, rfl⟩
      · have E := Lib.hid (numBody_of (neg := false) (l := u.data.toList) (by
          rw [HL.out, HH.out]
          rintro (h | h | ⟨h, _⟩)
          · omega
          · omega
          · injection h with h; exact h48 (by rw [h]; rfl)))
        have d0 : ((u[0].toNat : Int) == 48) = false := by rw [← hc, beq_eq_false_iff_ne]; omega
        clear h1 h48 hc
        have hsz : u.size ≤ 17 := by omega
        go_wp2_with fail
        clear d0 g0 g1
        go_loopg [5, 6] u.size (fun n v5 v6 wr => ∃ i : Nat, i + n = u.size ∧ v6 = .int .i64 i ∧ ∃ m : Nat, v5 = .int .i64 m ∧ Hid (m = digVal (u.data.toList.take i)) ∧ Hid (∀ b ∈ u.data.toList.take i, isDig b = true) ∧ w = wr)
        case atStart => exact ⟨0, by omega, rfl, 0, rfl, rfl, fun b hb => by simp at hb, rfl⟩
        case round =>
          obtain ⟨i, hi, rfl, m, rfl, HM, HD, rfl⟩ := hrel
          have hm : m < 100000000000000000 := by
            have h1 := dig_bound _ HD.out
            have h2 : (u.data.toList.take i).length ≤ 17 := by rw [List.length_take]; omega
            have h3 : 10 ^ (u.data.toList.take i).length ≤ 10 ^ 17 := Nat.pow_le_pow_right (by decide) h2
            rw [HM.out]
            omega
          by_cases hlt : i < u.size
          · have i0 : (0 : Int) ≤ (i : Int) := by omega
            have i1 : (i : Int) < (u.size : Int) := by omega
            have HBI := Lib.hid (bytes_get hlt)
            obtain ⟨b, hb⟩ : ∃ b, b = u[i] := ⟨_, rfl⟩
            have hb256 := b.toNat_lt
            rw [← hb] at HBI
            by_cases hdig : isDig b = true
            · have hd2 := hdig
              unfold isDig at hd2
              simp only [Bool.and_eq_true, decide_eq_true_eq] at hd2
              have e0 : ¬ ((u[i].toNat : Nat) : Int) < 48 := by rw [← hb]; omega
              have e3 : ¬ (57 : Int) < ((u[i].toNat : Nat) : Int) := by rw [← hb]; omega
              have e4 : ¬ u[i].toNat < 48 := by rw [← hb]; omega
              have e5 : ¬ 57 < u[i].toNat := by rw [← hb]; omega
              have e1 : IntKind.u8.wrap ((u[i].toNat : Int) - 48) = (u[i].toNat : Int) - 48 := by rw [← hb]; exact IntWalk.u8_in _ (by omega)
              have hb' := Lib.hid hb
              have HDG := Lib.hid hdig
              have HD2 := Lib.hid hd2
              clear hb hdig hd2
              go_wp2_with fail
              go_roundg (gk - 1)
              case measure => omega
              case rel =>
                have hb := hb'.out
                have hd2 := HD2.out
                refine ⟨i + 1, by omega, by go_num, 10 * m + (b.toNat - 48), ?_, ?_, ?_, rfl⟩
                · rw [← hb]
                  first
                    | exact congrArg (Value.int .i64) (by omega)
                    | (rw [Go.IntWalk.wrap64_in ((b.toNat : Int) - 48) (by omega), Go.IntWalk.wrap64_in _ (by omega)]; exact congrArg (Value.int .i64) (by omega))
                    | (rw [Go.IntWalk.wrap64_in ((m : Int) * 10) (by omega), Go.IntWalk.wrap64_in ((b.toNat : Int) - 48) (by omega), Go.IntWalk.wrap64_in _ (by omega)]; exact congrArg (Value.int .i64) (by omega))
                · show _ = _
                  rw [dig_take HBI.out, HM.out]
                · intro x hx
                  rw [List.take_add_one, HBI.out] at hx
                  rcases List.mem_append.1 hx with hx | hx
                  · exact HD.out x hx
                  · simp at hx
                    rw [hx]
                    exact HDG.out
            · have hf : isDig b = false := by simpa using hdig
              have EN : Hid (numBody false u.data.toList = none) := by
                show _ = _
                rw [E.out, if_neg]
                intro hall
                have := List.all_eq_true.1 hall b (List.mem_of_getElem? HBI.out)
                rw [hf] at this
                cases this
              clear E
              have E := EN
              unfold isDig at hf
              simp only [Bool.and_eq_false_iff, decide_eq_false_iff_not] at hf
              by_cases h1 : b.toNat < 48
              · have e0 : ((u[i].toNat : Nat) : Int) < 48 := by rw [← hb]; omega
                have e1 : u[i].toNat < 48 := by rw [← hb]; omega
                clear hb hdig hf EN h1
                go_wp2_with fail
                exact bodyPost_ret (v := .tuple #[.int .i64 0, .bool false]) (by simp [results, Tryz.results155, go_sem]) rfl ⟨by rw [EE.out, E.out]; rfl, rfl⟩
              · have e0 : ¬ ((u[i].toNat : Nat) : Int) < 48 := by rw [← hb]; omega
                have e3 : (57 : Int) < ((u[i].toNat : Nat) : Int) := by rw [← hb]; omega
                have e4 : ¬ u[i].toNat < 48 := by rw [← hb]; omega
                have e5 : 57 < u[i].toNat := by rw [← hb]; omega
                clear hb hdig hf EN h1
                go_wp2_with fail
                exact bodyPost_ret (v := .tuple #[.int .i64 0, .bool false]) (by simp [results, Tryz.results155, go_sem]) rfl ⟨by rw [EE.out, E.out]; rfl, rfl⟩
          · have hit : i = u.size := by omega
            have htk : u.data.toList.take i = u.data.toList := List.take_of_length_le (by rw [HL.out]; omega)
            rw [htk] at HM HD
            have EN : Hid (numBody false u.data.toList = some (if false = true then -(m : Int) else (m : Int))) := by
              show _ = _
              rw [E.out, if_pos (List.all_eq_true.2 HD.out), HM.out]
              try simp
            have hw : IntKind.i64.wrap (-(m : Int)) = -(m : Int) := IntWalk.i64_in _ (by omega)
            clear hit htk
            go_wp2_with fail
            exact bodyPost_ret (v := .tuple #[.int .i64 (if false = true then -(m : Int) else (m : Int)), .bool true]) (by simp [results, Tryz.results155, go_sem]) rfl ⟨by rw [EE.out, EN.out]; rfl, rfl⟩
    · have hz0 : 0 < u.size := by omega
      have q0 : (0 : Int) < (u.size : Int) := by omega
      have q2 : ((u[0].toNat : Int) == 45) = false := by
        rw [beq_eq_false_iff_ne]
        intro h
        apply h45
        rw [List.head?_eq_getElem?, bytes_get hz0]
        exact congrArg some (UInt8.toNat_inj.1 (by show _ = 45; omega))
      go_upto_region 4 with fail
      clear q0 q2 hz
      have HL := Lib.hid (bytes_len u)
      by_cases h1 : u.size = 0
      · have E : Hid (numBody false u.data.toList = none) := numBody_no (.inl (by rw [HL.out]; omega))
        have g1 : ((u.size : Int) == 0) = true := by simp [h1]
        clear h1
        go_wp2_with fail
        exact bodyPost_ret (v := .tuple #[.int .i64 0, .bool false]) (by simp [results, Tryz.results155, go_sem]) rfl ⟨by rw [EE.out, E.out]; rfl, rfl⟩
      have g0 : ((u.size : Int) == 0) = false := by simp [h1]
      by_cases h6 : 17 < u.size
      · have E : Hid (numBody false u.data.toList = none) := numBody_no (.inr (.inl (by rw [HL.out]; omega)))
        have g1 : (17 : Int) < (u.size : Int) := by omega
        clear h1 h6
        go_wp2_with fail
        exact bodyPost_ret (v := .tuple #[.int .i64 0, .bool false]) (by simp [results, Tryz.results155, go_sem]) rfl ⟨by rw [EE.out, E.out]; rfl, rfl⟩
      have g1 : ¬ (17 : Int) < (u.size : Int) := by omega
      have hs0 : 0 < u.size := by omega
      have hs0' : (0 : Int) < (u.size : Int) := by omega
      have HB := Lib.hid (bytes_get hs0)
      have HH : Hid (u.data.toList.head? = some u[0]) := by show _ = _; rw [List.head?_eq_getElem?]; exact HB.out
      obtain ⟨c, hc⟩ : ∃ c, c = u[0] := ⟨_, rfl⟩
      rw [← hc] at HB HH
      by_cases h48 : c.toNat = 48
      · have d0 : ((u[0].toNat : Int) == 48) = true := by rw [← hc]; simp [h48]
        by_cases h3 : 1 < u.size
        · have E : Hid (numBody false u.data.toList = none) := numBody_no (.inr (.inr ⟨by rw [HH.out]; exact congrArg some (UInt8.toNat_inj.1 h48), by rw [HL.out]; exact .inl h3⟩))
          have d1 : (1 : Int) < (u.size : Int) := by omega
          clear h1 h6 h48 h3 hc
          go_wp2_with fail
          exact bodyPost_ret (v := .tuple #[.int .i64 0, .bool false]) (by simp [results, Tryz.results155, go_sem]) rfl ⟨by rw [EE.out, E.out]; rfl, rfl⟩
        · have d1 : ¬ (1 : Int) < (u.size : Int) := by omega
          have E : Hid (numBody false u.data.toList = if u.data.toList.all isDig then some (if false = true then -(digVal u.data.toList : Int) else (digVal u.data.toList : Int)) else none) := by
            refine numBody_of ?_
            rw [HL.out]
            rintro (h | h | ⟨_, h | h⟩)
            · omega
            · omega
            · omega
            · cases h
          clear h1 h6 h48 h3 hc
          have hsz : u.size ≤ 17 := by omega
          go_wp2_with fail
          clear d0 g0 g1
          go_loopg [5, 6] u.size (fun n v5 v6 wr => ∃ i : Nat, i + n = u.size ∧ v6 = .int .i64 i ∧ ∃ m : Nat, v5 = .int .i64 m ∧ Hid (m = digVal (u.data.toList.take i)) ∧ Hid (∀ b ∈ u.data.toList.take i, isDig b = true) ∧ w = wr)
          case atStart => exact ⟨0, by omega, rfl, 0, rfl, rfl, fun b hb => by simp at hb, rfl⟩
          case round =>
            obtain ⟨i, hi, rfl, m, rfl, HM, HD, rfl⟩ := hrel
            have hm : m < 100000000000000000 := by
              have h1 := dig_bound _ HD.out
              have h2 : (u.data.toList.take i).length ≤ 17 := by rw [List.length_take]; omega
              have h3 : 10 ^ (u.data.toList.take i).length ≤ 10 ^ 17 := Nat.pow_le_pow_right (by decide) h2
              rw [HM.out]
              omega
            by_cases hlt : i < u.size
            · have i0 : (0 : Int) ≤ (i : Int) := by omega
              have i1 : (i : Int) < (u.size : Int) := by omega
              have HBI := Lib.hid (bytes_get hlt)
              obtain ⟨b, hb⟩ : ∃ b, b = u[i] := ⟨_, rfl⟩
              have hb256 := b.toNat_lt
              rw [← hb] at HBI
              by_cases hdig : isDig b = true
              · have hd2 := hdig
                unfold isDig at hd2
                simp only [Bool.and_eq_true, decide_eq_true_eq] at hd2
                have e0 : ¬ ((u[i].toNat : Nat) : Int) < 48 := by rw [← hb]; omega
                have e3 : ¬ (57 : Int) < ((u[i].toNat : Nat) : Int) := by rw [← hb]; omega
                have e4 : ¬ u[i].toNat < 48 := by rw [← hb]; omega
                have e5 : ¬ 57 < u[i].toNat := by rw [← hb]; omega
                have e1 : IntKind.u8.wrap ((u[i].toNat : Int) - 48) = (u[i].toNat : Int) - 48 := by rw [← hb]; exact IntWalk.u8_in _ (by omega)
                have hb' := Lib.hid hb
                have HDG := Lib.hid hdig
                have HD2 := Lib.hid hd2
                clear hb hdig hd2
                go_wp2_with fail
                go_roundg (gk - 1)
                case measure => omega
                case rel =>
                  have hb := hb'.out
                  have hd2 := HD2.out
                  refine ⟨i + 1, by omega, by go_num, 10 * m + (b.toNat - 48), ?_, ?_, ?_, rfl⟩
                  · rw [← hb]
                    first
                      | exact congrArg (Value.int .i64) (by omega)
                      | (rw [Go.IntWalk.wrap64_in ((b.toNat : Int) - 48) (by omega), Go.IntWalk.wrap64_in _ (by omega)]; exact congrArg (Value.int .i64) (by omega))
                      | (rw [Go.IntWalk.wrap64_in ((m : Int) * 10) (by omega), Go.IntWalk.wrap64_in ((b.toNat : Int) - 48) (by omega), Go.IntWalk.wrap64_in _ (by omega)]; exact congrArg (Value.int .i64) (by omega))
                  · show _ = _
                    rw [dig_take HBI.out, HM.out]
                  · intro x hx
                    rw [List.take_add_one, HBI.out] at hx
                    rcases List.mem_append.1 hx with hx | hx
                    · exact HD.out x hx
                    · simp at hx
                      rw [hx]
                      exact HDG.out
              · have hf : isDig b = false := by simpa using hdig
                have EN : Hid (numBody false u.data.toList = none) := by
                  show _ = _
                  rw [E.out, if_neg]
                  intro hall
                  have := List.all_eq_true.1 hall b (List.mem_of_getElem? HBI.out)
                  rw [hf] at this
                  cases this
                clear E
                have E := EN
                unfold isDig at hf
                simp only [Bool.and_eq_false_iff, decide_eq_false_iff_not] at hf
                by_cases h1 : b.toNat < 48
                · have e0 : ((u[i].toNat : Nat) : Int) < 48 := by rw [← hb]; omega
                  have e1 : u[i].toNat < 48 := by rw [← hb]; omega
                  clear hb hdig hf EN h1
                  go_wp2_with fail
                  exact bodyPost_ret (v := .tuple #[.int .i64 0, .bool false]) (by simp [results, Tryz.results155, go_sem]) rfl ⟨by rw [EE.out, E.out]; rfl, rfl⟩
                · have e0 : ¬ ((u[i].toNat : Nat) : Int) < 48 := by rw [← hb]; omega
                  have e3 : (57 : Int) < ((u[i].toNat : Nat) : Int) := by rw [← hb]; omega
                  have e4 : ¬ u[i].toNat < 48 := by rw [← hb]; omega
                  have e5 : 57 < u[i].toNat := by rw [← hb]; omega
                  clear hb hdig hf EN h1
                  go_wp2_with fail
                  exact bodyPost_ret (v := .tuple #[.int .i64 0, .bool false]) (by simp [results, Tryz.results155, go_sem]) rfl ⟨by rw [EE.out, E.out]; rfl, rfl⟩
            · have hit : i = u.size := by omega
              have htk : u.data.toList.take i = u.data.toList := List.take_of_length_le (by rw [HL.out]; omega)
              rw [htk] at HM HD
              have EN : Hid (numBody false u.data.toList = some (if false = true then -(m : Int) else (m : Int))) := by
                show _ = _
                rw [E.out, if_pos (List.all_eq_true.2 HD.out), HM.out]
                try simp
              have hw : IntKind.i64.wrap (-(m : Int)) = -(m : Int) := IntWalk.i64_in _ (by omega)
              clear hit htk
              go_wp2_with fail
              exact bodyPost_ret (v := .tuple #[.int .i64 (if false = true then -(m : Int) else (m : Int)), .bool true]) (by simp [results, Tryz.results155, go_sem]) rfl ⟨by rw [EE.out, EN.out]; rfl, rfl⟩
      · have E := Lib.hid (numBody_of (neg := false) (l := u.data.toList) (by
          rw [HL.out, HH.out]
          rintro (h | h | ⟨h, _⟩)
          · omega
          · omega
          · injection h with h; exact h48 (by rw [h]; rfl)))
        have d0 : ((u[0].toNat : Int) == 48) = false := by rw [← hc, beq_eq_false_iff_ne]; omega
        clear h1 h48 hc
        have hsz : u.size ≤ 17 := by omega
        go_wp2_with fail
        clear d0 g0 g1
        go_loopg [5, 6] u.size (fun n v5 v6 wr => ∃ i : Nat, i + n = u.size ∧ v6 = .int .i64 i ∧ ∃ m : Nat, v5 = .int .i64 m ∧ Hid (m = digVal (u.data.toList.take i)) ∧ Hid (∀ b ∈ u.data.toList.take i, isDig b = true) ∧ w = wr)
        case atStart => exact ⟨0, by omega, rfl, 0, rfl, rfl, fun b hb => by simp at hb, rfl⟩
        case round =>
          obtain ⟨i, hi, rfl, m, rfl, HM, HD, rfl⟩ := hrel
          have hm : m < 100000000000000000 := by
            have h1 := dig_bound _ HD.out
            have h2 : (u.data.toList.take i).length ≤ 17 := by rw [List.length_take]; omega
            have h3 : 10 ^ (u.data.toList.take i).length ≤ 10 ^ 17 := Nat.pow_le_pow_right (by decide) h2
            rw [HM.out]
            omega
          by_cases hlt : i < u.size
          · have i0 : (0 : Int) ≤ (i : Int) := by omega
            have i1 : (i : Int) < (u.size : Int) := by omega
            have HBI := Lib.hid (bytes_get hlt)
            obtain ⟨b, hb⟩ : ∃ b, b = u[i] := ⟨_, rfl⟩
            have hb256 := b.toNat_lt
            rw [← hb] at HBI
            by_cases hdig : isDig b = true
            · have hd2 := hdig
              unfold isDig at hd2
              simp only [Bool.and_eq_true, decide_eq_true_eq] at hd2
              have e0 : ¬ ((u[i].toNat : Nat) : Int) < 48 := by rw [← hb]; omega
              have e3 : ¬ (57 : Int) < ((u[i].toNat : Nat) : Int) := by rw [← hb]; omega
              have e4 : ¬ u[i].toNat < 48 := by rw [← hb]; omega
              have e5 : ¬ 57 < u[i].toNat := by rw [← hb]; omega
              have e1 : IntKind.u8.wrap ((u[i].toNat : Int) - 48) = (u[i].toNat : Int) - 48 := by rw [← hb]; exact IntWalk.u8_in _ (by omega)
              have hb' := Lib.hid hb
              have HDG := Lib.hid hdig
              have HD2 := Lib.hid hd2
              clear hb hdig hd2
              go_wp2_with fail
              go_roundg (gk - 1)
              case measure => omega
              case rel =>
                have hb := hb'.out
                have hd2 := HD2.out
                refine ⟨i + 1, by omega, by go_num, 10 * m + (b.toNat - 48), ?_, ?_, ?_, rfl⟩
                · rw [← hb]
                  first
                    | exact congrArg (Value.int .i64) (by omega)
                    | (rw [Go.IntWalk.wrap64_in ((b.toNat : Int) - 48) (by omega), Go.IntWalk.wrap64_in _ (by omega)]; exact congrArg (Value.int .i64) (by omega))
                    | (rw [Go.IntWalk.wrap64_in ((m : Int) * 10) (by omega), Go.IntWalk.wrap64_in ((b.toNat : Int) - 48) (by omega), Go.IntWalk.wrap64_in _ (by omega)]; exact congrArg (Value.int .i64) (by omega))
                · show _ = _
                  rw [dig_take HBI.out, HM.out]
                · intro x hx
                  rw [List.take_add_one, HBI.out] at hx
                  rcases List.mem_append.1 hx with hx | hx
                  · exact HD.out x hx
                  · simp at hx
                    rw [hx]
                    exact HDG.out
            · have hf : isDig b = false := by simpa using hdig
              have EN : Hid (numBody false u.data.toList = none) := by
                show _ = _
                rw [E.out, if_neg]
                intro hall
                have := List.all_eq_true.1 hall b (List.mem_of_getElem? HBI.out)
                rw [hf] at this
                cases this
              clear E
              have E := EN
              unfold isDig at hf
              simp only [Bool.and_eq_false_iff, decide_eq_false_iff_not] at hf
              by_cases h1 : b.toNat < 48
              · have e0 : ((u[i].toNat : Nat) : Int) < 48 := by rw [← hb]; omega
                have e1 : u[i].toNat < 48 := by rw [← hb]; omega
                clear hb hdig hf EN h1
                go_wp2_with fail
                exact bodyPost_ret (v := .tuple #[.int .i64 0, .bool false]) (by simp [results, Tryz.results155, go_sem]) rfl ⟨by rw [EE.out, E.out]; rfl, rfl⟩
              · have e0 : ¬ ((u[i].toNat : Nat) : Int) < 48 := by rw [← hb]; omega
                have e3 : (57 : Int) < ((u[i].toNat : Nat) : Int) := by rw [← hb]; omega
                have e4 : ¬ u[i].toNat < 48 := by rw [← hb]; omega
                have e5 : 57 < u[i].toNat := by rw [← hb]; omega
                clear hb hdig hf EN h1
                go_wp2_with fail
                exact bodyPost_ret (v := .tuple #[.int .i64 0, .bool false]) (by simp [results, Tryz.results155, go_sem]) rfl ⟨by rw [EE.out, E.out]; rfl, rfl⟩
          · have hit : i = u.size := by omega
            have htk : u.data.toList.take i = u.data.toList := List.take_of_length_le (by rw [HL.out]; omega)
            rw [htk] at HM HD
            have EN : Hid (numBody false u.data.toList = some (if false = true then -(m : Int) else (m : Int))) := by
              show _ = _
              rw [E.out, if_pos (List.all_eq_true.2 HD.out), HM.out]
              try simp
            have hw : IntKind.i64.wrap (-(m : Int)) = -(m : Int) := IntWalk.i64_in _ (by omega)
            clear hit htk
            go_wp2_with fail
            exact bodyPost_ret (v := .tuple #[.int .i64 (if false = true then -(m : Int) else (m : Int)), .bool true]) (by simp [results, Tryz.results155, go_sem]) rfl ⟨by rw [EE.out, EN.out]; rfl, rfl⟩

end Go.Proofs.YtfeidjjabjejiaaGreatDoor

/- What the two number readers say of written numbers: plain law. -/
namespace Go.Proofs.YtfeidjjabjejiaaGreatDoor
set_option linter.unusedSimpArgs false
set_option linter.unusedVariables false
set_option maxRecDepth 100000

theorem dec_ne (u : Nat) : Lib.decDigits u ≠ [] := fun h => by
  have := congrArg List.length h
  rw [Lib.decDigits_length, Lib.nDigits] at this
  split at this <;> simp at this
theorem dec_head (u : Nat) : u ≠ 0 → (Lib.decDigits u).head? ≠ some 48 := by
  induction u using Nat.strongRecOn with
  | ind u ih =>
    intro hu h
    by_cases h1 : u < 10
    · rw [Lib.decDigits, dif_pos h1] at h
      injection h with h
      have := congrArg UInt8.toNat h
      rw [ofNat_dig h1] at this
      have e48 : (48 : UInt8).toNat = 48 := rfl
      omega
    · rw [Lib.decDigits, dif_neg h1] at h
      refine ih (u / 10) (by omega) (by omega) ?_
      cases hd : Lib.decDigits (u / 10) with
      | nil => exact absurd hd (dec_ne _)
      | cons a l => rw [hd] at h; exact h
theorem dec_short {u : Nat} (h : u < 1000) : (Lib.decDigits u).length ≤ 3 := by
  rw [Lib.decDigits_length]
  by_cases h1 : u < 10
  · rw [Lib.nDigits_small h1]; omega
  · rw [Lib.nDigits_big h1]
    by_cases h2 : u / 10 < 10
    · rw [Lib.nDigits_small h2]; omega
    · rw [Lib.nDigits_big h2, Lib.nDigits_small (by omega)]
      omega
theorem dec_long {u : Nat} (h : 1 < (Lib.decDigits u).length) : u ≠ 0 := fun e => by
  subst e
  rw [Lib.decDigits_length, Lib.nDigits_small (by decide)] at h
  omega
theorem natural_dec {u : Nat} (h : u < 1000) : natural (Lib.decDigits u) = some u := by
  have hs := dec_short h
  have hp : 1 ≤ (Lib.decDigits u).length := List.length_pos_iff.2 (dec_ne u)
  rw [natural_of, if_pos (List.all_eq_true.2 (dec_dig u)), dec_val]
  rintro (h1 | h1 | ⟨h1, h2⟩)
  · omega
  · omega
  · exact dec_head u (dec_long h2) h1
theorem num_dec {u : Nat} (h : u < 1000) : numOf (Lib.decDigits u) = some (u : Int) := by
  have hs := dec_short h
  have hp : 1 ≤ (Lib.decDigits u).length := List.length_pos_iff.2 (dec_ne u)
  have h45 : (Lib.decDigits u).head? ≠ some 45 := fun e => by
    have hm : (45 : UInt8) ∈ Lib.decDigits u := List.mem_of_head? e
    have := dec_dig u _ hm
    revert this
    decide
  rw [numOf, if_neg h45, numBody_of, if_pos (List.all_eq_true.2 (dec_dig u)), dec_val]
  · rfl
  · rintro (h1 | h1 | ⟨h1, h2 | h2⟩)
    · omega
    · omega
    · exact dec_head u (dec_long h2) h1
    · cases h2
/-- what is read is no great number -/
theorem natural_lt {l : List UInt8} {n : Nat} (h : natural l = some n) : n < 1000000 := by
  unfold natural at h
  split at h
  · cases h
  · rename_i h1
    split at h
    · rename_i h2
      injection h with h
      have h3 := dig_bound l (List.all_eq_true.1 h2)
      have h4 : l.length ≤ 6 := by omega
      have h5 : 10 ^ l.length ≤ 10 ^ 6 := Nat.pow_le_pow_right (by decide) h4
      omega
    · cases h
theorem body_in {neg : Bool} {l : List UInt8} {n : Int} (h : numBody neg l = some n) : in64 n := by
  unfold numBody at h
  split at h
  · cases h
  · rename_i h1
    split at h
    · rename_i h2
      injection h with h
      have h3 := dig_bound l (List.all_eq_true.1 h2)
      have h4 : l.length ≤ 17 := by omega
      have h5 : 10 ^ l.length ≤ 10 ^ 17 := Nat.pow_le_pow_right (by decide) h4
      unfold in64
      cases neg <;> simp at h <;> omega
    · cases h
theorem num_in {l : List UInt8} {n : Int} (h : numOf l = some n) : in64 n := by
  unfold numOf at h
  split at h
  · exact body_in h
  · exact body_in h

end Go.Proofs.YtfeidjjabjejiaaGreatDoor
