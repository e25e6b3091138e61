/- Contracts of l1Done, asSequence and of the two DifferencesOf. -/
import Derived.Test.YtdmoceooijbajaaDoorDiff
import Derived.Test.YtdmoceooijbajaaDoorBase
import Derived.Test.YtdmoceooijbajaaDoorCopy
namespace Go.Proofs.YtdmoceooijbajaaDoor
open Go.RowKit
set_option linter.unusedVariables false
set_option linter.unusedSimpArgs false
def doneOf (xs : List Int) : List Int × Bool := if seqOk xs then (xs, true) else ([], false)
theorem doneOf_yes {xs : List Int} (h : seqOk xs = true) : doneOf xs = (xs, true) := by simp [doneOf, h]
theorem doneOf_no {xs : List Int} (h : seqOk xs = false) : doneOf xs = ([], false) := by simp [doneOf, h]
theorem doneOf_len (xs : List Int) : (doneOf xs).1.length ≤ 1000 := by
  unfold doneOf
  split
  · rename_i h; exact seqOk_len h
  · simp
def RetDone (w : World) (B : Nat) (x : List Int × Bool) (e : Ending) (w' : World) : Prop := ∃ A c, e = .returned (.tuple #[.slice A x.1.length c, .bool x.2]) ∧ Own w B A c x.1 ∧ w = w'
theorem l1Done_own (A : Option Addr) (B c : Nat) (xs : List Int) (w : World) (hO : Own w B A c xs) (hn : xs.length ≤ 9223372036854775807) :
    Calls Tryd.prog 25 #[.slice A xs.length c] w (RetDone w B (doneOf xs)) := by
  have R := own_rd hO
  have O := Lib.hid hO
  clear hO
  rcases Bool.eq_false_or_eq_true (seqOk xs) with h | h
  · rw [doneOf_yes h]
    go_enter Tryd.func25, Tryd.ntmps25
    go_wp2_with (go_at_call 42; refine (specIsSequence_any _ _ _ _ (by assumption) (by omega)).mono ?_; rintro e w' ⟨rfl, rfl⟩)
    go_ret2
    exact ⟨A, c, rfl, O.out, rfl⟩
  · rw [doneOf_no h]
    go_enter Tryd.func25, Tryd.ntmps25
    go_wp2_with (go_at_call 42; refine (specIsSequence_any _ _ _ _ (by assumption) (by omega)).mono ?_; rintro e w' ⟨rfl, rfl⟩)
    go_ret2
    exact ⟨none, 0, rfl, own_nil _ _, rfl⟩
theorem asSequence_own (A : Option Addr) (B c : Nat) (xs : List Int) (w : World) (hO : Own w B A c xs) (hn : xs.length ≤ 9223372036854775807) :
    Calls Tryd.prog 28 #[.slice A xs.length c] w (RetDone w B (doneOf xs)) := by
  have R := own_rd hO
  have O := Lib.hid hO
  clear hO
  rcases Bool.eq_false_or_eq_true (seqOk xs) with h | h
  · rw [doneOf_yes h]
    go_enter Tryd.func28, Tryd.ntmps28
    go_wp2_with (go_at_call 39; refine (implIsSequence_any _ _ _ _ (by assumption) (by omega)).mono ?_; rintro e w' ⟨rfl, rfl⟩)
    go_ret2
    exact ⟨A, c, rfl, O.out, rfl⟩
  · rw [doneOf_no h]
    go_enter Tryd.func28, Tryd.ntmps28
    go_wp2_with (go_at_call 39; refine (implIsSequence_any _ _ _ _ (by assumption) (by omega)).mono ?_; rintro e w' ⟨rfl, rfl⟩)
    go_ret2
    exact ⟨none, 0, rfl, own_nil _ _, rfl⟩
def diffOk (xs : List Int) (k : Int) : Bool := seqOk xs && inB k 0 6
def diffOf (xs : List Int) (k : Int) : List Int × Bool := if diffOk xs k then doneOf (diffN xs k.toNat) else ([], false)
theorem diffOf_yes {xs : List Int} {k : Nat} (h : seqOk xs = true) (hk : k ≤ 6) : diffOf xs k = doneOf (diffN xs k) := by
  have e : diffOk xs k = true := by simp only [diffOk, h, Bool.true_and]; exact inB_true (by omega) (by omega)
  simp [diffOf, e]
theorem diffOf_noSeq {xs : List Int} {k : Int} (h : seqOk xs = false) : diffOf xs k = ([], false) := by simp [diffOf, diffOk, h]
theorem diffOf_noOrder {xs : List Int} {k : Int} (h : inB k 0 6 = false) : diffOf xs k = ([], false) := by simp [diffOf, diffOk, h]
theorem diffOf_len (xs : List Int) (k : Int) : (diffOf xs k).1.length ≤ 1000 := by
  unfold diffOf
  split
  · exact doneOf_len _
  · simp
end Go.Proofs.YtdmoceooijbajaaDoor
