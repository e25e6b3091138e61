/- Contracts of l6Step and of the two StepAccumulator. -/
import Derived.Test.YtdmoceooijbajaaDoorPStep
import Derived.Test.YtdmoceooijbajaaDoorBase
namespace Go.Proofs.YtdmoceooijbajaaDoor
open Go.RowKit
set_option linter.unusedVariables false
set_option linter.unusedSimpArgs false
theorem apart_moved {A A' A1 : Option Addr} {n : Nat} (h : Apart A A') (hm : Moved A A1 n) (hh : Hi A' n) : Apart A1 A' := by
  rcases hm with e | hl
  · intro a a' ea ea'
    subst ea
    cases A with
    | none => simp [row] at e
    | some b =>
      simp [row] at e
      rw [e]
      exact h b a' rfl ea'
  · exact apart_gt hl hh (Nat.le_refl _)
def RetLLB (w : World) (x : LL) (e : Ending) (w' : World) : Prop :=
  ∃ A c A' c', e = .returned (.tuple #[.slice A x.c.length c, .slice A' x.n.length c', .bool x.ok]) ∧ Own w' w.heap.size A c x.c ∧ Own w' w.heap.size A' c' x.n ∧ Apart A A' ∧ Below w.heap.size w w'
def RetLL (w : World) (xs ys : List Int) (e : Ending) (w' : World) : Prop :=
  ∃ A c A' c', e = .returned (.tuple #[.slice A xs.length c, .slice A' ys.length c']) ∧ Own w' w.heap.size A c xs ∧ Own w' w.heap.size A' c' ys ∧ Apart A A' ∧ Below w.heap.size w w'
theorem two_empty (W : World) : Own ((W.alloc (.cells #[] 3)).alloc (.cells #[] 3)) W.heap.size (some ⟨W.heap.size, 0, none⟩) 0 [] ∧ Own ((W.alloc (.cells #[] 3)).alloc (.cells #[] 3)) W.heap.size (some ⟨W.heap.size + 1, 0, none⟩) 0 [] ∧ Below W.heap.size W ((W.alloc (.cells #[] 3)).alloc (.cells #[] 3)) := by
  have h1 := own_empty W W.heap.size (Nat.le_refl _)
  have h2 := own_empty (W.alloc (.cells #[] 3)) W.heap.size (by simp)
  simp only [World.size_alloc] at h2
  exact ⟨own_past h1 ((Below.refl _ _).alloc (Nat.le_refl _) _), h2, ((Below.refl _ _).alloc (Nat.le_refl _) _).alloc (by simp) _⟩
theorem apart_two (a b : Nat) (h : a ≠ b) : Apart (some ⟨a, 0, none⟩) (some ⟨b, 0, none⟩) := fun x y hx hy => by
  injection hx with hx; injection hy with hy; subst hx; subst hy; exact h
theorem stepA_len (o m : Int) (s : List Int) (x : Int) : (stepA o m s x).c.length ≤ 6 ∧ (stepA o m s x).n.length ≤ 6 := by
  unfold stepA
  split
  · rename_i h
    obtain ⟨⟨h1, _⟩, h2, _⟩ := restsOk_parts (stepOk_parts h).1
    simp only [stepC_length, stepN_length]
    omega
  · simp
end Go.Proofs.YtdmoceooijbajaaDoor
