/- Plain laws of combs of small inputs: they are sequences, wrapped or not; what a comb gives behind another run. No program. -/
import Derived.Test.YtfplecbacgcjgaaPCmb
import Derived.Test.YtfplecbacgcjgaaPLst
import Derived.Test.YtfplecbacgcjgaaGen
namespace Go.Proofs.Ytfplecbacgcjgaa
open Go.RowKit
set_option linter.unusedVariables false
set_option linter.unusedSimpArgs false
theorem pow6 {r n : Nat} (hr : r ≤ 6) (hn : n ≤ 4) : r ^ n ≤ 1296 :=
  Nat.le_trans (Nat.pow_le_pow_left hr n) (Nat.le_trans (Nat.pow_le_pow_right (by omega) hn) (by decide))
theorem itB_bd6 {M : Int} (hM : 0 ≤ M) {xs : List Int} (h : ∀ x ∈ xs, -M ≤ x ∧ x ≤ M) {r n : Nat} (hr : r ≤ 6) (hn : n ≤ 4) (k : Nat) : -(1296 * M) ≤ itF (bF r) n (fnOf xs) k ∧ itF (bF r) n (fnOf xs) k ≤ 1296 * M := by
  have h1 := itB_bd (r := r) hM (fnOf_bd hM h) n k
  have e : (r : Int) ^ n = ((r ^ n : Nat) : Int) := by simp
  have h2 : M * ((r ^ n : Nat) : Int) ≤ M * 1296 := Int.mul_le_mul_of_nonneg_left (by have := pow6 hr hn; omega) hM
  rw [e] at h1
  omega
theorem exN_ok {M : Int} (hM : 0 ≤ M) {xs : List Int} (h : ∀ x ∈ xs, -M ≤ x ∧ x ≤ M) (hl : xs.length ≤ 1000) {r n : Nat} (hr : r ≤ 6) (hn : n ≤ 4) (hb : 1296 * M ≤ 1099511627776) : seqOk (exN xs r n) = true := by
  rw [exN_eq]
  refine seqOk_of (fun x hx => ?_) (by rw [lst_length]; exact hl)
  obtain ⟨i, _, rfl⟩ := lst_mem hx
  have := itB_bd6 hM h hr hn i
  omega
theorem wrapW_abs {v k M : Int} (hk : 2 ≤ k) (h : -M ≤ v ∧ v ≤ M) : -M ≤ wrapW v k ∧ wrapW v k ≤ M := by
  have hp := two_pow_pos (k.toNat - 1)
  by_cases h1 : -(2 ^ (k.toNat - 1)) ≤ v
  · by_cases h2 : v < 2 ^ (k.toNat - 1)
    · rw [wrapW_in hk h1 h2]; exact h
    · have := wrapW_lo v k hk; omega
  · have := wrapW_lo v k hk; omega
/-- The exact sums, where all fit. -/
theorem exact_all {M : Int} (hM : 0 ≤ M) {xs : List Int} (h : ∀ x ∈ xs, -M ≤ x ∧ x ≤ M) (hl : xs.length ≤ 1000) {r n : Nat} (hr1 : 1 ≤ r) (hr : r ≤ 6) (hn1 : 1 ≤ n) (hn : n ≤ 4) (hb : 1296 * M ≤ 1099511627776) {k : Int} (k1 : 2 ≤ k) (k2 : k ≤ 62) :
    exactC n r k xs = (lst (xs.length / r) (fun m => dec r (itF (bF r) n (fnOf xs)) m), true) := by
  have hj : ∀ j, j ≤ n → seqOk (exN xs r j) = true := fun j hj => exN_ok hM h hl hr (by omega) hb
  have e := exTo_yes hr1 (by omega) hj n (Nat.le_refl _)
  rw [exactC_yes (by simp [inB_true (show (1 : Int) ≤ n by omega) (show (n : Int) ≤ 6 by omega), inB_true (show (1 : Int) ≤ r by omega) (show (r : Int) ≤ 100 by omega), inB_true k1 k2]) (by rw [e]), e]
  have e2 : ((r : Int) - 1) = ((r - 1 : Nat) : Int) := by omega
  rw [e2, decimate_yes (hj n (Nat.le_refl _)) hr1 (by omega) (by omega)]
  have e3 : decN xs.length r (r - 1) = xs.length / r := by
    unfold decN
    by_cases hx : r - 1 ≤ xs.length
    · rw [show xs.length - (r - 1) + r - 1 = xs.length by omega]
    · rw [show xs.length - (r - 1) + r - 1 = r - 1 by omega, Nat.div_eq_of_lt (by omega), Nat.div_eq_of_lt (by omega)]
  congr 1
  unfold decL
  rw [exN_length, e3]
  refine lst_congr fun j hj => ?_
  have hlt : r - 1 + j * r < xs.length := (decN_iff hr1 j).1 (by rw [e3]; exact hj)
  rw [exN_eq, fnOf_lst hlt]
  unfold dec
  rw [Nat.add_comm]
theorem run_all {M : Int} (hM : 0 ≤ M) {xs : List Int} (h : ∀ x ∈ xs, -M ≤ x ∧ x ≤ M) (hl : xs.length ≤ 1000) {r n k : Nat} (hr1 : 1 ≤ r) (hr : r ≤ 6) (hn1 : 1 ≤ n) (hn : n ≤ 4) (hb : 1296 * M ≤ 1099511627776) (k1 : 2 ≤ k) : seqOk (cYs r k ⟨zeros n, zeros n, 0⟩ xs xs.length) = true := by
  rw [comb_ys hn1 k1 hr1]
  refine seqOk_of (fun x hx => ?_) (by rw [lst_length]; exact Nat.le_trans (Nat.div_le_self _ _) hl)
  obtain ⟨i, _, rfl⟩ := lst_mem hx
  have := wrapW_abs (k := (k : Int)) (by omega) (itB_bd6 hM h hr hn (i * r + (r - 1)))
  unfold dec
  omega
end Go.Proofs.Ytfplecbacgcjgaa
