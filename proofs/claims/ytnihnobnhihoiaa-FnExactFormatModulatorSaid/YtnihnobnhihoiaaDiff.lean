/- Contracts of the program's differences and of the two DifferenceCoefs. -/
import Derived.Test.YtnihnobnhihoiaaClone
import Derived.Test.YtnihnobnhihoiaaPDiff
import Derived.Test.YtnihnobnhihoiaaBase
namespace Go.Proofs.Ytnihnobnhihoiaa
open Go.RowKit
set_option linter.unusedVariables false
set_option linter.unusedSimpArgs false
def coefs (k : Nat) : List Int := diffN (1 :: List.replicate k 0) k
theorem coefs_length (k : Nat) : (coefs k).length = k + 1 := by simp [coefs, diffN_length]
def coefsI (k : Int) : List Int := if inB k 0 6 then coefs k.toNat else []
theorem coefsI_yes (k : Nat) (hk : k ≤ 6) : coefsI k = coefs k := by simp [coefsI, inB_true (show (0 : Int) ≤ k by omega) (show (k : Int) ≤ 6 by omega)]
theorem coefsI_no {k : Int} (h : inB k 0 6 = false) : coefsI k = [] := by simp [coefsI, h]
theorem one_bd (k : Nat) : ∀ x ∈ (1 :: List.replicate k 0 : List Int), -1099511627776 ≤ x ∧ x ≤ 1099511627776 := by
  intro x hx
  simp only [List.mem_cons, List.mem_replicate] at hx
  omega
theorem made_one (n : Nat) : ((madeCells #[.int .i64 0] (n + 1)).setIfInBounds 0 (.int .i64 1)).toList = ints (1 :: List.replicate n 0) := by
  rw [Array.toList_setIfInBounds, toList_madeCells_one, List.replicate_succ]
  simp [ints]
theorem made_head (w : World) (n : Nat) (hn : n ≤ 1000) : (w.alloc (.cells (madeCells #[.int .i64 0] (n + 1)) 3)).cell? ⟨w.heap.size, 0, none⟩ = some (.int .i64 0) := by
  have O1 := own_cell (own_made (B := 0) w (n + 1) (by omega) (by simp only [maxLen]; omega)) (j := 0) (by simp)
  simpa [List.replicate_succ] using O1
theorem hide {p : Prop} (h : p) : Hid p := h
theorem unhide {p : Prop} (h : Hid p) : p := h
end Go.Proofs.Ytnihnobnhihoiaa
