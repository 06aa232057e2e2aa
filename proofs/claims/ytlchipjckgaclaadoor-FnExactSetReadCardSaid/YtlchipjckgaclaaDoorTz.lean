/- SetText of the program: strconv.Itoa and strings.Join by the shelf's contracts. -/
import Derived.Test.YtlchipjckgaclaaDoorTy
import Derived.Test.YtlchipjckgaclaaDoorShelf4
import Derived.Test.YtlchipjckgaclaaDoorAp
namespace Go.Proofs.YtlchipjckgaclaaDoor
set_option linter.unusedSimpArgs false
set_option linter.unusedVariables false
set_option maxRecDepth 100000
open Go.RowKit

abbrev TStr : Nat := 9
theorem infoStr : (Tryd.prog.info? TStr).map (fun i => (i.zero, i.size, i.bytes)) = some (some (.string ⟨#[]⟩), 1, 16) := by kernel_rfl
abbrev Pow10 (w : World) : Prop := Lib.TabIs Tryd.prog w "internal/strconv.uint64pow10" .u64 Lib.pow10Tab
theorem Pow10.below {w w' : World} (h : Pow10 w) (hb : Below w.heap.size w w') : Pow10 w' := by
  unfold Pow10 Lib.TabIs at h ⊢
  unfold World.var? at h ⊢
  cases hg : Tryd.prog.globalNamed "internal/strconv.uint64pow10" with
  | none => rw [hg] at h; cases h
  | some g =>
    rw [hg] at h
    simp only [Option.bind_some] at h ⊢
    have hlt : g < w.heap.size := by
      rcases Nat.lt_or_ge g w.heap.size with h1 | h1
      · exact h1
      · rw [Array.getElem?_eq_none h1] at h; cases h
    rw [hb.block g hlt]
    exact h
theorem iItoa_c (n : Int) (w : World) (h : in64 n) (ht : Pow10 w) :
    Calls Tryd.prog 43 #[.int .i64 n] w fun e w' => e = .returned (.string (str (Lib.itoa n))) ∧ Below w.heap.size w w' :=
  (Tryd.strconv_Itoa n h.1 h.2 w ht).mono fun e w' ⟨h1, k, os, h2⟩ => ⟨h1, by rw [h2]; exact below_grow w k os⟩
def txts (xs : List Sp) : List Value := xs.map fun x => .string (str (spanTxt x))
theorem txts_snoc {xs : List Sp} {k : Nat} {x : Sp} (h : xs[k]? = some x) : txts (xs.take (k + 1)) = txts (xs.take k) ++ [.string (str (spanTxt x))] := by rw [take_snoc h]; simp [txts]
theorem iJoin_c (xs : List Sp) (g c : Nat) (w : World) {base : Nat} (h : w.ownsRow base TStr 1 (.slice (some ⟨g, 0, none⟩) xs.length c) xs.length (txts xs)) (h64 : sp64 xs) (hn : xs.length ≤ 1048576) (hc : xs.length ≤ c) :
    Calls Tryd.prog 44 #[.slice (some ⟨g, 0, none⟩) xs.length c, .string ⟨#[44]⟩] w fun e w' => e = .returned (.string (str (accTxt xs))) ∧ Below w.heap.size w w' := by
  have hl : (xs.map fun x => str (spanTxt x)).length = xs.length := List.length_map _
  have e : ((xs.map fun x => str (spanTxt x)).map (·.data.toList)) = xs.map spanTxt := by
    rw [List.map_map]
    exact List.map_congr_left fun x _ => rfl
  have hlen : (accTxt xs).length ≤ 44 * xs.length := by
    have := acc_len xs h64 xs.length (Nat.le_refl _)
    rw [List.take_length] at this
    exact this
  have hj := Tryd.strings_Join g 0 c (xs.map fun x => str (spanTxt x)) ⟨#[44]⟩ w (fun j x hj => by
    rw [Nat.zero_add, h.cellAt j (by have := (List.getElem?_eq_some_iff.1 hj).1; rw [hl] at this; omega)]
    rw [List.getElem?_map, Option.map_eq_some_iff] at hj
    obtain ⟨y, hy, rfl⟩ := hj
    unfold txts
    rw [List.getElem?_map, hy]
    rfl) (own_base h g rfl).2 (by rw [hl]; omega) (by rw [hl]; exact hc) (by rw [e]; show (accTxt xs).length ≤ _; omega)
  rw [hl, e] at hj
  exact hj

end Go.Proofs.YtlchipjckgaclaaDoor
