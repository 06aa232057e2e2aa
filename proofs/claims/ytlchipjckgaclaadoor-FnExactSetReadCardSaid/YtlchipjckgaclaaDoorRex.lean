/- What a text is like, as a tree: the plain functions, and what holds of them. No program in sight. -/
import Derived.Test.YtlchipjckgaclaaDoorSets
namespace Go.Proofs.YtlchipjckgaclaaDoor
set_option linter.unusedSimpArgs false
set_option linter.unusedVariables false
set_option maxRecDepth 100000

inductive Rex where
  | mk : Int → List Sp → List Rex → Rex
def Rex.kind : Rex → Int
  | .mk k _ _ => k
def Rex.set : Rex → List Sp
  | .mk _ s _ => s
def Rex.kids : Rex → List Rex
  | .mk _ _ ks => ks
instance : Inhabited Rex := ⟨.mk 0 [] []⟩
theorem Rex.eta (r : Rex) : r = .mk r.kind r.set r.kids := by cases r; rfl

theorem Rex.ind {p : Rex → Prop} (h : ∀ k s ks, (∀ r, r ∈ ks → p r) → p (.mk k s ks)) (r : Rex) : p r :=
  Rex.rec (motive_1 := p) (motive_2 := fun ks => ∀ r, r ∈ ks → p r) (fun k s ks ih => h k s ks ih) (fun r hr => by cases hr)
    (fun x xs h1 h2 r hr => by
      rcases List.mem_cons.1 hr with rfl | hr
      · exact h1
      · exact h2 r hr) r

/-- how many kids a kind has -/
def kidsOf (k : Int) : Int := if k = 1 ∨ k = 2 then 0 else if k = 5 ∨ k = 7 then 1 else if k = 3 ∨ k = 4 ∨ k = 6 then 2 else -1

/-- the node itself is right -/
def nodeOk (r : Rex) : Bool := decide (kidsOf r.kind = r.kids.length) && (decide (r.kind = 1) || r.set.isEmpty) && setOk r.set
def formed : Nat → Rex → Bool
  | 0, _ => false
  | d + 1, r => nodeOk r && r.kids.all (formed d)

mutual
def Rex.many : Rex → Nat
  | .mk _ _ ks => 1 + manyL ks
def manyL : List Rex → Nat
  | [] => 0
  | r :: rs => r.many + manyL rs
end
def rexOk (r : Rex) : Bool := formed 8 r && decide (r.many ≤ 24)

mutual
def rexEq : Rex → Rex → Bool
  | .mk k s ks, .mk k' s' ks' => decide (k = k') && decide (s = s') && rexEqL ks ks'
def rexEqL : List Rex → List Rex → Bool
  | [], [] => true
  | r :: rs, r' :: rs' => rexEq r r' && rexEqL rs rs'
  | _, _ => false
end

mutual
def null : Rex → Bool
  | .mk k _ ks =>
    if k = 2 ∨ k = 5 then true
    else if k = 3 ∨ k = 6 then nullAt ks 0 && nullAt ks 1
    else if k = 4 then nullAt ks 0 || nullAt ks 1
    else if k = 7 then !nullAt ks 0
    else false
def nullAt : List Rex → Nat → Bool
  | [], _ => false
  | r :: _, 0 => null r
  | _ :: rs, n + 1 => nullAt rs n
end

mutual
def setsOf : Rex → List (List Sp)
  | .mk k s ks => (if k = 1 then [s] else []) ++ setsOfL ks
def setsOfL : List Rex → List (List Sp)
  | [] => []
  | r :: rs => setsOf r ++ setsOfL rs
end

theorem rexEq_iff (a : Rex) : ∀ b, rexEq a b = true ↔ a = b := by
  refine Rex.rec (motive_1 := fun a => ∀ b, rexEq a b = true ↔ a = b) (motive_2 := fun l => ∀ l', rexEqL l l' = true ↔ l = l') ?_ ?_ ?_ a
  · intro k s ks ih b
    obtain ⟨k', s', ks'⟩ := b
    simp only [rexEq, Bool.and_eq_true, decide_eq_true_eq, ih, Rex.mk.injEq, and_assoc]
  · intro l'
    cases l' <;> simp [rexEqL]
  · intro x xs h1 h2 l'
    cases l' with
    | nil => simp [rexEqL]
    | cons y ys => simp only [rexEqL, Bool.and_eq_true, h1, h2, List.cons.injEq]

theorem formed_mono {d : Nat} : ∀ {r : Rex}, formed d r = true → formed (d + 1) r = true := by
  induction d with
  | zero => intro r h; simp [formed] at h
  | succ d ih =>
    intro r h
    rw [formed, Bool.and_eq_true, List.all_eq_true] at h ⊢
    exact ⟨h.1, fun k hk => ih (h.2 k hk)⟩
theorem formed_le {d d' : Nat} (hd : d ≤ d') {r : Rex} (h : formed d r = true) : formed d' r = true := by
  obtain ⟨j, rfl⟩ := Nat.exists_eq_add_of_le hd
  induction j with
  | zero => exact h
  | succ j ih => exact formed_mono (ih (by omega))

end Go.Proofs.YtlchipjckgaclaaDoor
