/- Contracts of the small tests of numbers, and of the tests of a Comb and of an Accumulator: each returns the same plain test. -/
import Derived.Test.YthpjpnilmpihaaaBase
namespace Go.Proofs.Ythpjpnilmpihaaa
open Go.RowKit
set_option linter.unusedVariables false
set_option linter.unusedSimpArgs false
theorem l1In_any (x a b : Int) (w : World) :
    Calls Try.prog 46 #[.int .i64 x, .int .i64 a, .int .i64 b] w fun e w' => e = .returned (.bool (inB x a b)) ∧ w = w' := by
  go_enter Try.func46, Try.ntmps46
  go_wp2
  all_goals (go_ret; exact ⟨ret_bool (by simp [inB]; try omega), rfl⟩)
theorem isOrder_any (x : Int) (w : World) :
    Calls Try.prog 71 #[.int .i64 x] w fun e w' => e = .returned (.bool (inB x 0 6)) ∧ w = w' := by
  go_enter Try.func71, Try.ntmps71
  go_wp2
  all_goals (go_ret; exact ⟨ret_bool (by simp [inB]; try omega), rfl⟩)
theorem isSample_any (x : Int) (w : World) :
    Calls Try.prog 64 #[.int .i64 x] w fun e w' => e = .returned (.bool (inB x (-1099511627776) 1099511627776)) ∧ w = w' := by
  go_enter Try.func64, Try.ntmps64
  go_wp2
  all_goals (go_ret; exact ⟨ret_bool (by simp [inB]; try omega), rfl⟩)
theorem l1Sample_any (x : Int) (w : World) :
    Calls Try.prog 77 #[.int .i64 x] w fun e w' => e = .returned (.bool (inB x (-1099511627776) 1099511627776)) ∧ w = w' := by
  go_enter Try.func77, Try.ntmps77
  go_wp2_with (go_at_call 46; refine (l1In_any _ _ _ _).mono ?_; rintro e w' ⟨rfl, rfl⟩)
  all_goals (go_ret; exact ⟨rfl, rfl⟩)
def accOk (o m : Int) : Bool := inB o 1 6 && inB m 2 1048576
def combOk (o r k : Int) : Bool := inB o 1 6 && inB r 1 100 && inB k 2 62
theorem comb_parts {o r k : Int} (h : combOk o r k = true) : (1 ≤ o ∧ o ≤ 6) ∧ (1 ≤ r ∧ r ≤ 100) ∧ 2 ≤ k ∧ k ≤ 62 := by
  simp [combOk, inB] at h; omega
end Go.Proofs.Ythpjpnilmpihaaa
