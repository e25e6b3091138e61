/- Plain laws of one step of an accumulator. No program. -/
import Derived.Test.YtdmoceooijbajaaDoorBase
namespace Go.Proofs.YtdmoceooijbajaaDoor
open Go.RowKit
set_option linter.unusedVariables false
set_option linter.unusedSimpArgs false
/-- What comes into stage k. -/
def sx (m : Int) (s : List Int) (x : Int) : Nat → Int
  | 0 => x
  | k + 1 => (sx m s x k + s.getD k 0) % m
def stepN (m : Int) (s : List Int) (x : Int) : List Int := (List.range s.length).map fun k => sx m s x (k + 1)
def stepC (m : Int) (s : List Int) (x : Int) : List Int := (List.range s.length).map fun k => (sx m s x k + s.getD k 0) / m
theorem stepN_length (m : Int) (s : List Int) (x : Int) : (stepN m s x).length = s.length := by simp [stepN]
theorem stepC_length (m : Int) (s : List Int) (x : Int) : (stepC m s x).length = s.length := by simp [stepC]
theorem stepN_at {m : Int} {s : List Int} {x : Int} {k : Nat} (h : k < (stepN m s x).length) : (stepN m s x)[k] = sx m s x (k + 1) := by simp [stepN]
theorem stepC_at {m : Int} {s : List Int} {x : Int} {k : Nat} (h : k < (stepC m s x).length) : (stepC m s x)[k] = (sx m s x k + s.getD k 0) / m := by simp [stepC]
def Rests (m : Int) (s : List Int) : Prop := ∀ v ∈ s, 0 ≤ v ∧ v < m
theorem rests_getD {m : Int} {s : List Int} (hm : 2 ≤ m) (h : Rests m s) (k : Nat) : 0 ≤ s.getD k 0 ∧ s.getD k 0 < m := by
  by_cases hk : k < s.length
  · rw [getD_at hk]; exact h _ (List.getElem_mem hk)
  · rw [List.getD, List.getElem?_eq_none (by omega)]; simp; omega
theorem sx_bd {m : Int} {s : List Int} {x : Int} (hm : 2 ≤ m) (h : Rests m s) (hx : 0 ≤ x ∧ x < m) : ∀ k, 0 ≤ sx m s x k ∧ sx m s x k < m
  | 0 => hx
  | k + 1 => ⟨Int.emod_nonneg _ (by omega), Int.emod_lt_of_pos _ (by omega)⟩
theorem stepN_rests {m : Int} {s : List Int} {x : Int} (hm : 2 ≤ m) (h : Rests m s) (hx : 0 ≤ x ∧ x < m) : Rests m (stepN m s x) := by
  intro v hv
  simp only [stepN, List.mem_map] at hv
  obtain ⟨k, _, rfl⟩ := hv
  exact sx_bd hm h hx (k + 1)
/-- Two numbers below m: their sum's rest and quotient. -/
theorem sum_lo {m a b : Int} (h : 0 ≤ a + b) (h' : a + b < m) : (a + b) % m = a + b ∧ (a + b) / m = 0 := ⟨Int.emod_eq_of_lt h h', Int.ediv_eq_zero_of_lt h h'⟩
theorem sum_hi {m a b : Int} (hm : 0 < m) (h : m ≤ a + b) (h' : a + b < m + m) : (a + b) % m = a + b - m ∧ (a + b) / m = 1 := by
  have e : a + b = (a + b - m) + m := by omega
  constructor
  · rw [e, Int.add_emod_right, Int.emod_eq_of_lt (by omega) (by omega)]; omega
  · rw [e, Int.add_ediv_of_dvd_right (Int.dvd_refl m), Int.ediv_eq_zero_of_lt (by omega) (by omega), Int.ediv_self (by omega)]; rfl
theorem carry_bit {m a b : Int} (hm : 2 ≤ m) (ha : 0 ≤ a ∧ a < m) (hb : 0 ≤ b ∧ b < m) : 0 ≤ (a + b) / m ∧ (a + b) / m ≤ 1 := by
  rcases Int.lt_or_le (a + b) m with h | h
  · rw [(sum_lo (by omega) h).2]; omega
  · rw [(sum_hi (by omega) h (by omega)).2]; omega
theorem stepC_bits {m : Int} {s : List Int} {x : Int} (hm : 2 ≤ m) (h : Rests m s) (hx : 0 ≤ x ∧ x < m) : ∀ v ∈ stepC m s x, 0 ≤ v ∧ v ≤ 1 := by
  intro v hv
  simp only [stepC, List.mem_map] at hv
  obtain ⟨k, _, rfl⟩ := hv
  exact carry_bit hm (sx_bd hm h hx k) (rests_getD hm h k)
def stepOk (o m : Int) (s : List Int) (x : Int) : Bool := restsOk o m s && restB m x
structure LL where
  c : List Int
  n : List Int
  ok : Bool
def stepA (o m : Int) (s : List Int) (x : Int) : LL := if stepOk o m s x then ⟨stepC m s x, stepN m s x, true⟩ else ⟨[], [], false⟩
theorem stepA_yes {o m : Int} {s : List Int} {x : Int} (h : stepOk o m s x = true) : stepA o m s x = ⟨stepC m s x, stepN m s x, true⟩ := by simp [stepA, h]
theorem stepA_no {o m : Int} {s : List Int} {x : Int} (h : stepOk o m s x = false) : stepA o m s x = ⟨[], [], false⟩ := by simp [stepA, h]
theorem stepOk_parts {o m : Int} {s : List Int} {x : Int} (h : stepOk o m s x = true) : restsOk o m s = true ∧ (0 ≤ x ∧ x < m) := by
  simp only [stepOk, Bool.and_eq_true] at h
  refine ⟨h.1, ?_⟩
  simpa [restB] using h.2
end Go.Proofs.YtdmoceooijbajaaDoor
