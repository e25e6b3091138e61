/- Contracts of the two ReversedOf. -/
import Derived.Test.YthpjpnilmpihaaaClone
import Derived.Test.YthpjpnilmpihaaaSeq
namespace Go.Proofs.Ythpjpnilmpihaaa
open Go.RowKit
set_option linter.unusedVariables false
set_option linter.unusedSimpArgs false
def revOf (xs : List Int) : List Int × Bool := if wordOk xs then (xs.reverse, true) else ([], false)
theorem revOf_yes {xs : List Int} (h : wordOk xs = true) : revOf xs = (xs.reverse, true) := by simp [revOf, h]
theorem revOf_no {xs : List Int} (h : wordOk xs = false) : revOf xs = ([], false) := by simp [revOf, h]
theorem revOf_len (xs : List Int) : (revOf xs).1.length ≤ 1000 := by
  unfold revOf
  split
  · rename_i h
    have := wordOk_len h
    simpa using this
  · simp
theorem implReversedOf_any (A : Option Addr) (c : Nat) (xs : List Int) (w : World) (hr : Rd w w.heap.size A xs) (hn : xs.length ≤ 1048576) :
    Calls Try.prog 33 #[.slice A xs.length c] w (RetLB w (revOf xs)) := by
  rcases Bool.eq_false_or_eq_true (wordOk xs) with h | h
  · rw [revOf_yes h]
    go_enter Try.func33, Try.ntmps33
    go_wp2_with fail
    refine (implIsWord_any _ _ _ _ hr (by omega)).mono ?_; rintro e w' ⟨rfl, rfl⟩
    go_wp2_with fail
    refine (clone_any _ _ _ _ hr (by omega)).mono ?_; rintro e w1 ⟨A1, c1, rfl, O1, h1⟩
    go_wp2_with fail
    refine (reverse_any _ _ _ _ _ O1 (by omega)).mono ?_; rintro e w2 ⟨rfl, O2, h2⟩
    go_wp2_with fail
    go_ret2
    exact ⟨A1, c1, by simp, O2, h1.trans (below_wrote h2 h1.size (own_lo O1))⟩
  · rw [revOf_no h]
    go_enter Try.func33, Try.ntmps33
    go_wp2_with fail
    refine (implIsWord_any _ _ _ _ hr (by omega)).mono ?_; rintro e w' ⟨rfl, rfl⟩
    go_wp2_with fail
    go_ret2
    exact ⟨none, 0, rfl, own_nil _ _, Below.refl _ _⟩
end Go.Proofs.Ythpjpnilmpihaaa
