/- Plain laws of the wrap of a number to a width from 2 to 62 bits. No program. -/
import Derived.Test.YtdmoceooijbajaaDoorBase
import Derived.Laws.BitsAllLaws
import Derived.Laws.BitsLemmas
namespace Go.Proofs.YtdmoceooijbajaaDoor
open Go.RowKit
/-- v wrapped to k bits, signed. -/
def wrapW (v k : Int) : Int := if 2 ^ (k.toNat - 1) ≤ v % 2 ^ k.toNat then v % 2 ^ k.toNat - 2 ^ k.toNat else v % 2 ^ k.toNat

theorem two_pow_pos (n : Nat) : (0 : Int) < 2 ^ n := by
  have : (0 : Nat) < 2 ^ n := Nat.two_pow_pos n
  have h : ((2 ^ n : Nat) : Int) = (2 : Int) ^ n := by simp
  omega
theorem two_pow_le (n m : Nat) (h : n ≤ m) : (2 : Int) ^ n ≤ 2 ^ m := by
  have := Nat.pow_le_pow_right (show 0 < 2 by omega) h
  have h1 : ((2 ^ n : Nat) : Int) = (2 : Int) ^ n := by simp
  have h2 : ((2 ^ m : Nat) : Int) = (2 : Int) ^ m := by simp
  omega
theorem two_pow_62 (n : Nat) (h : n ≤ 62) : (2 : Int) ^ n ≤ 4611686018427387904 := by
  have := two_pow_le n 62 h
  have e : (2 : Int) ^ 62 = 4611686018427387904 := by decide
  omega
theorem two_pow_half (n : Nat) (h : 1 ≤ n) : (2 : Int) ^ n = 2 * 2 ^ (n - 1) := by
  obtain ⟨m, rfl⟩ : ∃ m, n = m + 1 := ⟨n - 1, by omega⟩
  rw [Int.pow_succ]; simp [Int.mul_comm]
theorem wrap64_pow (n : Nat) (h : n ≤ 62) : wrap64 (2 ^ n) = 2 ^ n := by
  have := two_pow_62 n h; have := two_pow_pos n
  unfold wrap64; omega
theorem wrap64_pow' (n : Nat) (h : n ≤ 62) : wrap64 (2 ^ n - 1) = 2 ^ n - 1 := by
  have := two_pow_62 n h; have := two_pow_pos n
  unfold wrap64; omega
theorem and_mask (v : Int) (n : Nat) (h : n ≤ 62) : bits .and .i64 v (2 ^ n - 1) = v % 2 ^ n := by
  have hp := two_pow_62 n h
  have hq := two_pow_pos n
  have e : ((2 ^ n : Nat) : Int) = (2 : Int) ^ n := by simp
  have e1 : (2 : Int) ^ n - 1 = ((2 ^ n - 1 : Nat) : Int) := by
    have : 0 < 2 ^ n := Nat.two_pow_pos n
    omega
  show IntKind.i64.wrap ((BitVec.ofInt 64 v &&& BitVec.ofInt 64 (2 ^ n - 1)).toNat : Int) = _
  have hm : 2 ^ n - 1 < 2 ^ 64 := by
    have : 2 ^ n ≤ 2 ^ 62 := Nat.pow_le_pow_right (by omega) h
    omega
  have e2 : (BitVec.ofInt 64 ((2 : Int) ^ n - 1)).toNat = 2 ^ n - 1 := by
    rw [e1, BitVec.ofInt_natCast, BitVec.toNat_ofNat]; exact Nat.mod_eq_of_lt hm
  rw [BitVec.toNat_and, e2, Nat.and_two_pow_sub_one_eq_mod]
  have e3 : ((BitVec.ofInt 64 v).toNat : Int) = v % 18446744073709551616 := by
    rw [BitVec.toNat_ofInt]
    have : (0 : Int) ≤ v % 18446744073709551616 := Int.emod_nonneg _ (by omega)
    omega
  have e4 : (((BitVec.ofInt 64 v).toNat % 2 ^ n : Nat) : Int) = v % 2 ^ n := by
    rw [Int.natCast_emod, e3, e]
    refine Int.emod_emod_of_dvd _ ⟨2 ^ (64 - n), ?_⟩
    rw [← Int.pow_add, show n + (64 - n) = 64 by omega]; decide
  rw [e4, IntKind.wrap_i64]
  have h1 : 0 ≤ v % 2 ^ n := Int.emod_nonneg _ (by omega)
  have h2 : v % 2 ^ n < 2 ^ n := Int.emod_lt_of_pos _ hq
  omega
theorem mask_is (v k : Int) (h2 : 2 ≤ k) (h3 : k ≤ 62) : bits .and .i64 v (wrap64 (wrap64 (2 ^ k.toNat) - 1)) = v % 2 ^ k.toNat := by
  rw [wrap64_pow _ (by omega), wrap64_pow' _ (by omega), and_mask _ _ (by omega)]
theorem wrapW_lo (v k : Int) (h2 : 2 ≤ k) : -(2 ^ (k.toNat - 1)) ≤ wrapW v k ∧ wrapW v k < 2 ^ (k.toNat - 1) := by
  unfold wrapW
  have h := two_pow_half k.toNat (by omega)
  have hq := two_pow_pos k.toNat
  have h1 : 0 ≤ v % 2 ^ k.toNat := Int.emod_nonneg _ (by omega)
  have h2 : v % 2 ^ k.toNat < 2 ^ k.toNat := Int.emod_lt_of_pos _ hq
  split <;> omega
end Go.Proofs.YtdmoceooijbajaaDoor
