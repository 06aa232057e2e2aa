/- What is formed to a depth has no parts below it. -/
import Derived.Test.YtlchipjckgaclaaDoorT6
namespace Go.Proofs.YtlchipjckgaclaaDoor

theorem manyToL_eq {d : Nat} {l : List Rex} (h : ∀ r, r ∈ l → r.manyTo d = r.many) : manyToL l d = manyL l := by
  induction l with
  | nil => rfl
  | cons x xs ih => rw [manyToL, manyL, h x (by simp), ih fun r hr => h r (by simp [hr])]
theorem formed_many (d : Nat) : ∀ r, formed d r = true → r.manyTo d = r.many := by
  induction d with
  | zero => intro r h; simp [formed] at h
  | succ d ih =>
    intro r h
    obtain ⟨k, s, ks⟩ := r
    rw [formed, Bool.and_eq_true, List.all_eq_true] at h
    have e : manyToL ks d = manyL ks := manyToL_eq fun r hr => ih r (h.2 r hr)
    rw [Rex.manyTo, Rex.many, e]

end Go.Proofs.YtlchipjckgaclaaDoor
