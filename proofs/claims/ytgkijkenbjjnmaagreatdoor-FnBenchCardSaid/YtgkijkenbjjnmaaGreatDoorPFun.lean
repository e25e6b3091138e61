/- Sequences as functions of their index: differences of them, and lists of their first values. No program. -/
import Derived.Test.YtgkijkenbjjnmaaGreatDoorPDiff
namespace Go.Proofs.YtgkijkenbjjnmaaGreatDoor
open Go.RowKit
set_option linter.unusedVariables false
set_option linter.unusedSimpArgs false
def lst (n : Nat) (f : Nat → Int) : List Int := (List.range n).map f
def fnOf (xs : List Int) (k : Nat) : Int := xs.getD k 0
theorem lst_length (n : Nat) (f : Nat → Int) : (lst n f).length = n := by simp [lst]
theorem lst_at {n k : Nat} (f : Nat → Int) (h : k < n) : (lst n f)[k]? = some (f k) := by simp [lst, h]
theorem lst_get {n k : Nat} (f : Nat → Int) (h : k < (lst n f).length) : (lst n f)[k] = f k := by simp [lst]
theorem lst_getD {n k : Nat} (f : Nat → Int) (h : k < n) : (lst n f).getD k 0 = f k := by simp [lst, h]
theorem lst_congr {n : Nat} {f g : Nat → Int} (h : ∀ k, k < n → f k = g k) : lst n f = lst n g := by
  unfold lst
  exact List.map_congr_left fun k hk => h k (List.mem_range.1 hk)
theorem lst_fnOf (xs : List Int) : lst xs.length (fnOf xs) = xs := by
  apply List.ext_getElem?
  intro k
  by_cases h : k < xs.length
  · rw [lst_at _ h]; simp [fnOf, h]
  · rw [List.getElem?_eq_none (by rw [lst_length]; omega), List.getElem?_eq_none (by omega)]
theorem eq_lst {xs : List Int} {n : Nat} {f : Nat → Int} (hl : xs.length = n) (h : ∀ k (hk : k < xs.length), xs[k] = f k) : xs = lst n f := by
  apply List.ext_getElem?
  intro k
  by_cases hk : k < n
  · rw [lst_at _ hk, List.getElem?_eq_getElem (by omega), h k (by omega)]
  · rw [List.getElem?_eq_none (by omega), List.getElem?_eq_none (by rw [lst_length]; omega)]
theorem lst_succ (n : Nat) (f : Nat → Int) : lst (n + 1) f = lst n f ++ [f n] := by simp [lst, List.range_succ]
theorem lst_mem {n : Nat} {f : Nat → Int} {x : Int} (h : x ∈ lst n f) : ∃ k, k < n ∧ x = f k := by
  simp only [lst, List.mem_map, List.mem_range] at h
  obtain ⟨k, h1, h2⟩ := h
  exact ⟨k, h1, h2.symm⟩
/-- The value before. -/
def bef (f : Nat → Int) : Nat → Int
  | 0 => 0
  | k + 1 => f k
def dF (f : Nat → Int) (k : Nat) : Int := f k - bef f k
def dFn (f : Nat → Int) : Nat → Nat → Int
  | 0 => f
  | n + 1 => dF (dFn f n)
theorem diff1_lst (n : Nat) (f : Nat → Int) : diff1 (lst n f) = lst n (dF f) := by
  apply List.ext_getElem?
  intro k
  by_cases hk : k < n
  · rw [lst_at _ hk]
    cases k with
    | zero => rw [diff1_zero, lst_at _ hk]; simp [dF, bef]
    | succ k =>
      have hl := lst_length n f
      rw [diff1, diffs_succ (lst n f) 0 k (by omega), lst_get f, lst_get f]; rfl
  · rw [List.getElem?_eq_none (by rw [diff1_length, lst_length]; omega), List.getElem?_eq_none (by rw [lst_length]; omega)]
theorem diffN_lst (n : Nat) (f : Nat → Int) : ∀ k, diffN (lst n f) k = lst n (dFn f k)
  | 0 => rfl
  | k + 1 => by rw [diffN, diffN_lst n f k, diff1_lst]; rfl
theorem diffN_eq (xs : List Int) (k : Nat) : diffN xs k = lst xs.length (dFn (fnOf xs) k) := by
  rw [← diffN_lst, lst_fnOf]
theorem dF_congr {f g : Nat → Int} {n : Nat} (h : ∀ k, k < n → f k = g k) : ∀ k, k < n → dF f k = dF g k
  | 0, hk => by simp [dF, bef, h 0 hk]
  | k + 1, hk => by simp [dF, bef, h k (by omega), h (k + 1) hk]
theorem dFn_congr {f g : Nat → Int} {n : Nat} (h : ∀ k, k < n → f k = g k) : ∀ j, ∀ k, k < n → dFn f j k = dFn g j k
  | 0 => h
  | j + 1 => dF_congr (dFn_congr h j)
theorem dF_sub (f g : Nat → Int) : dF (fun k => f k - g k) = fun k => dF f k - dF g k := by
  funext k
  cases k <;> simp [dF, bef] <;> omega
theorem dF_add (f g : Nat → Int) : dF (fun k => f k + g k) = fun k => dF f k + dF g k := by
  funext k
  cases k <;> simp [dF, bef] <;> omega
theorem dF_mul (m : Int) (f : Nat → Int) : dF (fun k => m * f k) = fun k => m * dF f k := by
  funext k
  cases k <;> simp [dF, bef, Int.mul_sub]
theorem dFn_sub (f g : Nat → Int) : ∀ n, dFn (fun k => f k - g k) n = fun k => dFn f n k - dFn g n k
  | 0 => rfl
  | n + 1 => by rw [dFn, dFn_sub f g n, dF_sub]; rfl
theorem dFn_add (f g : Nat → Int) : ∀ n, dFn (fun k => f k + g k) n = fun k => dFn f n k + dFn g n k
  | 0 => rfl
  | n + 1 => by rw [dFn, dFn_add f g n, dF_add]; rfl
theorem dFn_mul (m : Int) (f : Nat → Int) : ∀ n, dFn (fun k => m * f k) n = fun k => m * dFn f n k
  | 0 => rfl
  | n + 1 => by rw [dFn, dFn_mul m f n, dF_mul]; rfl
theorem dFn_dF (f : Nat → Int) : ∀ n, dFn (dF f) n = dFn f (n + 1)
  | 0 => rfl
  | n + 1 => by rw [dFn, dFn_dF f n]; rfl
theorem dF_bd {f : Nat → Int} {a b : Int} (h : ∀ k, a ≤ f k ∧ f k ≤ b) (ha : a ≤ 0) (hb : 0 ≤ b) : ∀ k, a - b ≤ dF f k ∧ dF f k ≤ b - a
  | 0 => by have := h 0; simp [dF, bef]; omega
  | k + 1 => by have := h k; have := h (k + 1); simp [dF, bef]; omega
/-- Sums of the first values. -/
def sumF (f : Nat → Int) : Nat → Int
  | 0 => 0
  | n + 1 => sumF f n + f n
theorem lst_sum (f : Nat → Int) : ∀ n, (lst n f).sum = sumF f n
  | 0 => rfl
  | n + 1 => by rw [lst_succ, List.sum_append, lst_sum f n]; simp [sumF]
theorem sum_fnOf (xs : List Int) : xs.sum = sumF (fnOf xs) xs.length := by rw [← lst_sum, lst_fnOf]
theorem sumF_congr {f g : Nat → Int} : ∀ n, (∀ k, k < n → f k = g k) → sumF f n = sumF g n
  | 0, _ => rfl
  | n + 1, h => by rw [sumF, sumF, sumF_congr n (fun k hk => h k (by omega)), h n (by omega)]
theorem sumF_add (f g : Nat → Int) : ∀ n, sumF (fun k => f k + g k) n = sumF f n + sumF g n
  | 0 => rfl
  | n + 1 => by simp only [sumF, sumF_add f g n]; omega
theorem sumF_mul (m : Int) (f : Nat → Int) : ∀ n, sumF (fun k => m * f k) n = m * sumF f n
  | 0 => by simp [sumF]
  | n + 1 => by simp only [sumF, sumF_mul m f n, Int.mul_add]
theorem sumF_const (c : Int) : ∀ n : Nat, sumF (fun _ => c) n = n * c
  | 0 => by simp [sumF]
  | n + 1 => by rw [sumF, sumF_const c n]; simp [Int.add_mul]
end Go.Proofs.YtgkijkenbjjnmaaGreatDoor
