/- Numbers read: natural of the program. -/
import Derived.Test.YtlchipjckgaclaaDoorTi
import Derived.Test.YtlchipjckgaclaaDoorW1h
namespace Go.Proofs.YtlchipjckgaclaaDoor
set_option linter.unusedSimpArgs false
set_option linter.unusedVariables false
set_option maxRecDepth 100000
open Go.RowKit

def natural (l : List UInt8) : Option Nat := if l.length < 1 ∨ 6 < l.length ∨ (l.head? = some 48 ∧ 1 < l.length) then none else if l.all isDig then some (digVal l) else none
theorem natural_no1 {l : List UInt8} (h : l.length < 1 ∨ 6 < l.length ∨ (l.head? = some 48 ∧ 1 < l.length)) : natural l = none := if_pos h
theorem natural_of {l : List UInt8} (h : ¬ (l.length < 1 ∨ 6 < l.length ∨ (l.head? = some 48 ∧ 1 < l.length))) : natural l = if l.all isDig then some (digVal l) else none := if_neg h
abbrev natV (o : Option Nat) : Value := .tuple #[.int .i64 ((o.getD 0 : Nat) : Int), .bool o.isSome]
theorem dig_take {l : List UInt8} {i : Nat} {b : UInt8} (h : l[i]? = some b) : digVal (l.take (i + 1)) = 10 * digVal (l.take i) + (b.toNat - 48) := by
  rw [List.take_add_one, h]
  exact dig_snoc _ _
theorem dig_bound : ∀ (l : List UInt8), (∀ b ∈ l, isDig b = true) → digVal l < 10 ^ l.length := by
  intro l
  have key : ∀ n (l : List UInt8), l.length = n → (∀ b ∈ l, isDig b = true) → digVal l < 10 ^ l.length := by
    intro n
    induction n with
    | zero => intro l hl _; rw [List.length_eq_zero_iff.1 hl]; decide
    | succ n ih =>
      intro l hl h
      rcases List.eq_nil_or_concat l with rfl | ⟨m, b, rfl⟩
      · simp at hl
      · rw [List.concat_eq_append] at hl h ⊢
        have hm : m.length = n := by simpa using hl
        have h1 := ih m hm fun x hx => h x (by simp [hx])
        have h2 := h b (by simp)
        unfold isDig at h2
        simp at h2
        rw [dig_snoc, List.length_append, List.length_singleton, Nat.pow_succ]
        omega
  exact key _ l rfl

set_option maxHeartbeats 2000000 in
theorem iNatural_c (t : ByteArray) (w : World) (hs : t.size ≤ 4294967280) :
    Calls Tryd.prog 65 #[.string t] w fun e w' => e = .returned (natV (natural t.data.toList)) ∧ w = w' := by
  have hl : t.data.toList.length = t.size := by rw [Array.length_toList]; rfl
  have HL := Lib.hid hl
  clear hl
  go_enter Tryd.func65, Tryd.ntmps65
  by_cases h1 : t.size = 0
  · have E : Hid (natural t.data.toList = none) := natural_no1 (.inl (by rw [HL.out]; omega))
    have g1 : (t.size : Int) < 1 := by omega
    have g2 : decide ((t.size : Int) < 1) = true := by simp; omega
    clear h1
    go_wp2_with fail
    exact bodyPost_ret (v := .tuple #[.int .i64 0, .bool false]) (by simp [results, Tryd.results65, go_sem]) rfl ⟨by rw [E.out]; rfl, rfl⟩
  by_cases h6 : 6 < t.size
  · have E : Hid (natural t.data.toList = none) := natural_no1 (.inr (.inl (by rw [HL.out]; omega)))
    have g0 : ¬ (t.size : Int) < 1 := by omega
    have g1 : (6 : Int) < (t.size : Int) := by omega
    clear h1 h6
    go_wp2_with fail
    exact bodyPost_ret (v := .tuple #[.int .i64 0, .bool false]) (by simp [results, Tryd.results65, go_sem]) rfl ⟨by rw [E.out]; rfl, rfl⟩
  have g0 : ¬ (t.size : Int) < 1 := by omega
  have g1 : ¬ (6 : Int) < (t.size : Int) := by omega
  have hs0 : 0 < t.size := by omega
  have hs0' : (0 : Int) < (t.size : Int) := by omega
  have HB : Hid (t.data.toList[0]? = some t[0]) := by show _ = _; rw [Array.getElem?_toList, Array.getElem?_eq_getElem hs0]; rfl
  have HH : Hid (t.data.toList.head? = some t[0]) := by show _ = _; rw [List.head?_eq_getElem?]; exact HB.out
  obtain ⟨c, hc⟩ : ∃ c, c = t[0] := ⟨_, rfl⟩
  rw [← hc] at HB HH
  have HC := Lib.hid hc
  by_cases h48 : c.toNat = 48
  · by_cases h2 : 1 < t.size
    · have E : Hid (natural t.data.toList = none) := natural_no1 (.inr (.inr ⟨by rw [HH.out]; exact congrArg some (UInt8.toNat_inj.1 h48), by rw [HL.out]; omega⟩))
      have d0 : ((t[0].toNat : Int) == 48) = true := by rw [← hc]; simp [h48]
      have d1 : (1 : Int) < (t.size : Int) := by omega
      clear h1 h6 h48 h2 hc
      go_wp2_with fail
      exact bodyPost_ret (v := .tuple #[.int .i64 0, .bool false]) (by simp [results, Tryd.results65, go_sem]) rfl ⟨by rw [E.out]; rfl, rfl⟩
    · have E := Lib.hid (natural_of (l := t.data.toList) (by rw [HL.out]; omega))
      have d0 : ((t[0].toNat : Int) == 48) = true := by rw [← hc]; simp [h48]
      have d1 : ¬ (1 : Int) < (t.size : Int) := by omega
      clear h1 h6 h48 h2 hc
      have hsz : t.size ≤ 6 := by omega
      clear g0 g1
      go_wp2_with fail
      clear d0
      go_loopg [4, 5] t.size (fun n v4 v5 wr => ∃ i : Nat, i + n = t.size ∧ v5 = .int .i64 i ∧ ∃ m : Nat, v4 = .int .i64 m ∧ Hid (m = digVal (t.data.toList.take i)) ∧ Hid (∀ b ∈ t.data.toList.take i, isDig b = true) ∧ w = wr)
      case atStart => exact ⟨0, by omega, rfl, 0, rfl, rfl, fun b hb => by simp at hb, rfl⟩
      case round =>
        obtain ⟨i, hi, rfl, m, rfl, HM, HD, rfl⟩ := hrel
        by_cases hlt : i < t.size
        · have i0 : (0 : Int) ≤ (i : Int) := by omega
          have i1 : (i : Int) < (t.size : Int) := by omega
          have HBI : Hid (t.data.toList[i]? = some t[i]) := by show _ = _; rw [Array.getElem?_toList, Array.getElem?_eq_getElem hlt]; rfl
          have hm : m < 1000000 := by
            have h1 := dig_bound _ HD.out
            have h2 : (t.data.toList.take i).length ≤ 6 := by rw [List.length_take]; omega
            have h3 : 10 ^ (t.data.toList.take i).length ≤ 10 ^ 6 := Nat.pow_le_pow_right (by decide) h2
            rw [HM.out]
            omega
          obtain ⟨b, hb⟩ : ∃ b, b = t[i] := ⟨_, rfl⟩
          have hb256 := b.toNat_lt
          rw [← hb] at HBI
          by_cases hdig : isDig b = true
          · have hd2 := hdig
            unfold isDig at hd2
            simp only [Bool.and_eq_true, decide_eq_true_eq] at hd2
            have e0 : (decide ((48 : Int) ≤ ((t[i].toNat : Nat) : Int)) && decide (((t[i].toNat : Nat) : Int) ≤ 57)) = true := by rw [← hb]; simp; omega
            have e1 : IntKind.u8.wrap ((t[i].toNat : Int) - 48) = (t[i].toNat : Int) - 48 := by rw [← hb]; exact IntWalk.u8_in _ (by omega)
            have e2 : IntKind.i64.wrap (t[i].toNat : Int) = (t[i].toNat : Int) := by rw [← hb]; exact IntWalk.i64_in _ (by omega)
            have hb' := Lib.hid hb
            have HDG := Lib.hid hdig
            have HD2 := Lib.hid hd2
            clear hb hdig hd2
            go_wp2_with (go_at_call 71; refine (in_c _ _ _ _).mono ?_; rintro e w' ⟨rfl, rfl⟩)
            go_roundg (gk - 1)
            case measure => omega
            case rel =>
              have hb := hb'.out
              have hd2 := HD2.out
              refine ⟨i + 1, by omega, by go_num, 10 * m + (b.toNat - 48), ?_, ?_, ?_, rfl⟩
              · rw [← hb, Go.IntWalk.wrap64_in ((b.toNat : Int) - 48) (by omega), Go.IntWalk.wrap64_in _ (by omega)]
                exact congrArg (Value.int .i64) (by omega)
              · show _ = _
                rw [dig_take HBI.out, HM.out]
              · intro x hx
                rw [List.take_add_one, HBI.out] at hx
                rcases List.mem_append.1 hx with hx | hx
                · exact HD.out x hx
                · simp at hx
                  rw [hx]
                  exact HDG.out
          · have hf : isDig b = false := by simpa using hdig
            have e0 : (decide ((48 : Int) ≤ ((t[i].toNat : Nat) : Int)) && decide (((t[i].toNat : Nat) : Int) ≤ 57)) = false := by
              rw [← hb]
              unfold isDig at hf
              simp at hf ⊢
              omega
            have e2 : IntKind.i64.wrap (t[i].toNat : Int) = (t[i].toNat : Int) := by rw [← hb]; exact IntWalk.i64_in _ (by omega)
            have EN : Hid (natural t.data.toList = none) := by
              show _ = _
              rw [E.out, if_neg]
              intro hall
              have := List.all_eq_true.1 hall b (List.mem_of_getElem? HBI.out)
              rw [hf] at this
              cases this
            clear E
            have E := EN
            clear hb hdig hf EN
            go_wp2_with (go_at_call 71; refine (in_c _ _ _ _).mono ?_; rintro e w' ⟨rfl, rfl⟩)
            exact bodyPost_ret (v := .tuple #[.int .i64 0, .bool false]) (by simp [results, Tryd.results65, go_sem]) rfl ⟨by rw [E.out]; rfl, rfl⟩
        · have hit : i = t.size := by omega
          have htk : t.data.toList.take i = t.data.toList := List.take_of_length_le (by rw [HL.out]; omega)
          rw [htk] at HM HD
          have EN : Hid (natural t.data.toList = some m) := by
            show _ = _
            rw [E.out, if_pos (List.all_eq_true.2 HD.out), HM.out]
          clear hit htk
          go_wp2_with fail
          exact bodyPost_ret (v := .tuple #[.int .i64 m, .bool true]) (by simp [results, Tryd.results65, go_sem]) rfl ⟨by rw [EN.out]; rfl, rfl⟩
  · have E := Lib.hid (natural_of (l := t.data.toList) (by
      rw [HL.out, HH.out]
      rintro (h | h | ⟨h, _⟩)
      · omega
      · omega
      · injection h with h; exact h48 (by rw [h]; rfl)))
    have d0 : ((t[0].toNat : Int) == 48) = false := by rw [← hc, beq_eq_false_iff_ne]; omega
    clear h1 h48 hc
    have hsz : t.size ≤ 6 := by omega
    clear g0 g1
    go_wp2_with fail
    clear d0
    go_loopg [4, 5] t.size (fun n v4 v5 wr => ∃ i : Nat, i + n = t.size ∧ v5 = .int .i64 i ∧ ∃ m : Nat, v4 = .int .i64 m ∧ Hid (m = digVal (t.data.toList.take i)) ∧ Hid (∀ b ∈ t.data.toList.take i, isDig b = true) ∧ w = wr)
    case atStart => exact ⟨0, by omega, rfl, 0, rfl, rfl, fun b hb => by simp at hb, rfl⟩
    case round =>
      obtain ⟨i, hi, rfl, m, rfl, HM, HD, rfl⟩ := hrel
      by_cases hlt : i < t.size
      · have i0 : (0 : Int) ≤ (i : Int) := by omega
        have i1 : (i : Int) < (t.size : Int) := by omega
        have HBI : Hid (t.data.toList[i]? = some t[i]) := by show _ = _; rw [Array.getElem?_toList, Array.getElem?_eq_getElem hlt]; rfl
        have hm : m < 1000000 := by
          have h1 := dig_bound _ HD.out
          have h2 : (t.data.toList.take i).length ≤ 6 := by rw [List.length_take]; omega
          have h3 : 10 ^ (t.data.toList.take i).length ≤ 10 ^ 6 := Nat.pow_le_pow_right (by decide) h2
          rw [HM.out]
          omega
        obtain ⟨b, hb⟩ : ∃ b, b = t[i] := ⟨_, rfl⟩
        have hb256 := b.toNat_lt
        rw [← hb] at HBI
        by_cases hdig : isDig b = true
        · have hd2 := hdig
          unfold isDig at hd2
          simp only [Bool.and_eq_true, decide_eq_true_eq] at hd2
          have e0 : (decide ((48 : Int) ≤ ((t[i].toNat : Nat) : Int)) && decide (((t[i].toNat : Nat) : Int) ≤ 57)) = true := by rw [← hb]; simp; omega
          have e1 : IntKind.u8.wrap ((t[i].toNat : Int) - 48) = (t[i].toNat : Int) - 48 := by rw [← hb]; exact IntWalk.u8_in _ (by omega)
          have e2 : IntKind.i64.wrap (t[i].toNat : Int) = (t[i].toNat : Int) := by rw [← hb]; exact IntWalk.i64_in _ (by omega)
          have hb' := Lib.hid hb
          have HDG := Lib.hid hdig
          have HD2 := Lib.hid hd2
          clear hb hdig hd2
          go_wp2_with (go_at_call 71; refine (in_c _ _ _ _).mono ?_; rintro e w' ⟨rfl, rfl⟩)
          go_roundg (gk - 1)
          case measure => omega
          case rel =>
            have hb := hb'.out
            have hd2 := HD2.out
            refine ⟨i + 1, by omega, by go_num, 10 * m + (b.toNat - 48), ?_, ?_, ?_, rfl⟩
            · rw [← hb, Go.IntWalk.wrap64_in ((b.toNat : Int) - 48) (by omega), Go.IntWalk.wrap64_in _ (by omega)]
              exact congrArg (Value.int .i64) (by omega)
            · show _ = _
              rw [dig_take HBI.out, HM.out]
            · intro x hx
              rw [List.take_add_one, HBI.out] at hx
              rcases List.mem_append.1 hx with hx | hx
              · exact HD.out x hx
              · simp at hx
                rw [hx]
                exact HDG.out
        · have hf : isDig b = false := by simpa using hdig
          have e0 : (decide ((48 : Int) ≤ ((t[i].toNat : Nat) : Int)) && decide (((t[i].toNat : Nat) : Int) ≤ 57)) = false := by
            rw [← hb]
            unfold isDig at hf
            simp at hf ⊢
            omega
          have e2 : IntKind.i64.wrap (t[i].toNat : Int) = (t[i].toNat : Int) := by rw [← hb]; exact IntWalk.i64_in _ (by omega)
          have EN : Hid (natural t.data.toList = none) := by
            show _ = _
            rw [E.out, if_neg]
            intro hall
            have := List.all_eq_true.1 hall b (List.mem_of_getElem? HBI.out)
            rw [hf] at this
            cases this
          clear E
          have E := EN
          clear hb hdig hf EN
          go_wp2_with (go_at_call 71; refine (in_c _ _ _ _).mono ?_; rintro e w' ⟨rfl, rfl⟩)
          exact bodyPost_ret (v := .tuple #[.int .i64 0, .bool false]) (by simp [results, Tryd.results65, go_sem]) rfl ⟨by rw [E.out]; rfl, rfl⟩
      · have hit : i = t.size := by omega
        have htk : t.data.toList.take i = t.data.toList := List.take_of_length_le (by rw [HL.out]; omega)
        rw [htk] at HM HD
        have EN : Hid (natural t.data.toList = some m) := by
          show _ = _
          rw [E.out, if_pos (List.all_eq_true.2 HD.out), HM.out]
        clear hit htk
        go_wp2_with fail
        exact bodyPost_ret (v := .tuple #[.int .i64 m, .bool true]) (by simp [results, Tryd.results65, go_sem]) rfl ⟨by rw [EN.out]; rfl, rfl⟩

end Go.Proofs.YtlchipjckgaclaaDoor
