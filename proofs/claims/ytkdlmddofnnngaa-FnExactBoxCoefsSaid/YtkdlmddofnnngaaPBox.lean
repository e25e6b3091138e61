/- Plain laws of the coefficients of boxes. No program. -/
import Derived.Test.YtkdlmddofnnngaaPPart
import Derived.Test.YtkdlmddofnnngaaPGrow
namespace Go.Proofs.Ytkdlmddofnnngaa
open Go.RowKit
/-- What the first i elements of D give to place t of their convolution with r ones. -/
def boxA (D : List Int) (r i t : Nat) : Int := pre D (min i (t + 1)) - pre D (min i (t + 1 - r))
/-- The convolution with r ones. -/
def box1 (D : List Int) (r : Nat) : List Int := (List.range (D.length + r - 1)).map fun t => boxA D r D.length t
def boxN (r : Nat) : Nat → List Int
  | 0 => [1]
  | k + 1 => box1 (boxN r k) r
theorem box1_length (D : List Int) (r : Nat) : (box1 D r).length = D.length + r - 1 := by simp [box1]
theorem boxN_length {r : Nat} (hr : 1 ≤ r) : ∀ k, (boxN r k).length = 1 + k * (r - 1)
  | 0 => by simp [boxN]
  | k + 1 => by rw [boxN, box1_length, boxN_length hr k, Nat.add_mul]; omega
theorem pre_range {D : List Int} {M : Int} (h : ∀ x ∈ D, 0 ≤ x ∧ x ≤ M) (a : Nat) : ∀ n : Nat, a + n ≤ D.length → 0 ≤ pre D (a + n) - pre D a ∧ pre D (a + n) - pre D a ≤ M * n := by
  intro n
  induction n with
  | zero => intro _; simp
  | succ n ih =>
    intro hn
    have h1 := ih (by omega)
    have h2 := h D[a + n] (List.getElem_mem (by omega))
    rw [← Nat.add_assoc, pre_succ D (by omega)]
    have e : M * ((n + 1 : Nat) : Int) = M * n + M := by rw [Int.natCast_add, Int.mul_add]; simp
    omega
theorem boxA_bd {D : List Int} {M : Int} (h : ∀ x ∈ D, 0 ≤ x ∧ x ≤ M) (hM : 0 ≤ M) {r i t : Nat} (hi : i ≤ D.length) : 0 ≤ boxA D r i t ∧ boxA D r i t ≤ M * r := by
  unfold boxA
  have h1 := pre_range h (min i (t + 1 - r)) (min i (t + 1) - min i (t + 1 - r)) (by omega)
  rw [show min i (t + 1 - r) + (min i (t + 1) - min i (t + 1 - r)) = min i (t + 1) by omega] at h1
  have h2 : M * ((min i (t + 1) - min i (t + 1 - r) : Nat) : Int) ≤ M * r := Int.mul_le_mul_of_nonneg_left (by omega) hM
  omega
theorem boxN_bd {r : Nat} (hr : 1 ≤ r) : ∀ k, ∀ x ∈ boxN r k, 0 ≤ x ∧ x ≤ (r : Int) ^ k
  | 0 => by simp [boxN]
  | k + 1 => by
    intro x hx
    simp only [boxN, box1, List.mem_map, List.mem_range] at hx
    obtain ⟨t, _, rfl⟩ := hx
    have hp := pow_ge_one (r : Int) (by omega) k
    have := boxA_bd (boxN_bd hr k) (by omega) (r := r) (t := t) (Nat.le_refl (boxN r k).length)
    rw [Int.pow_succ]
    exact this
theorem boxA_succ {D : List Int} {r i : Nat} (hi : i < D.length) (t : Nat) : boxA D r (i + 1) t = boxA D r i t + if i ≤ t ∧ t < i + r then D[i] else 0 := by
  have hs := pre_succ D hi
  unfold boxA
  by_cases h1 : i ≤ t
  · rw [show min (i + 1) (t + 1) = i + 1 by omega, show min i (t + 1) = i by omega]
    by_cases h2 : t < i + r
    · rw [if_pos ⟨h1, h2⟩, show min (i + 1) (t + 1 - r) = t + 1 - r by omega, show min i (t + 1 - r) = t + 1 - r by omega]
      omega
    · rw [if_neg (by omega), show min (i + 1) (t + 1 - r) = i + 1 by omega, show min i (t + 1 - r) = i by omega]
      omega
  · rw [if_neg (by omega), show min (i + 1) (t + 1) = t + 1 by omega, show min i (t + 1) = t + 1 by omega, show min (i + 1) (t + 1 - r) = t + 1 - r by omega, show min i (t + 1 - r) = t + 1 - r by omega]
    omega
theorem boxA_zero (D : List Int) (r t : Nat) : boxA D r 0 t = 0 := by simp [boxA]
/-- The first i elements are laid, and j places of the next one. -/
def BoxTo (D : List Int) (r i j : Nat) (ys : List Int) : Prop := ys.length = D.length + r - 1 ∧ ∀ t, t < D.length + r - 1 → ys[t]? = some (boxA D r i t + if i ≤ t ∧ t < i + j then D.getD i 0 else 0)
theorem boxTo_start (D : List Int) (r : Nat) : BoxTo D r 0 0 (List.replicate (D.length + r - 1) 0) := by
  refine ⟨by simp, fun t ht => ?_⟩
  rw [List.getElem?_replicate, if_pos ht, boxA_zero, if_neg (by omega)]
  rfl
theorem boxTo_at {D ys : List Int} {r i j : Nat} (h : BoxTo D r i j ys) (hij : i + j < ys.length) : ys[i + j] = boxA D r i (i + j) := by
  have hl := h.1
  have e := h.2 (i + j) (by omega)
  rw [if_neg (by omega), List.getElem?_eq_getElem hij] at e
  have := Option.some.inj e
  omega
theorem boxTo_step {D ys : List Int} {r i j : Nat} (h : BoxTo D r i j ys) (hi : i < D.length) (hij : i + j < ys.length) : BoxTo D r i (j + 1) (ys.set (i + j) (ys[i + j] + D[i])) := by
  have hl := h.1
  refine ⟨by simp [hl], fun t ht => ?_⟩
  by_cases hc : t = i + j
  · subst hc
    rw [List.getElem?_set_self hij, if_pos (by omega), boxTo_at h hij]
    simp [hi]
  · rw [List.getElem?_set_ne (by omega), h.2 t ht]
    by_cases h2 : i ≤ t ∧ t < i + j
    · rw [if_pos h2, if_pos (by omega)]
    · rw [if_neg h2, if_neg (by omega)]
theorem boxTo_row {D ys : List Int} {r i : Nat} (h : BoxTo D r i r ys) (hi : i < D.length) : BoxTo D r (i + 1) 0 ys := by
  refine ⟨h.1, fun t ht => ?_⟩
  rw [h.2 t ht, boxA_succ hi, if_neg (show ¬ (i + 1 ≤ t ∧ t < i + 1 + 0) by omega)]
  have : D.getD i 0 = D[i] := by simp [hi]
  rw [this]; simp
theorem boxTo_end {D ys : List Int} {r : Nat} (h : BoxTo D r D.length 0 ys) : ys = box1 D r := by
  apply List.ext_getElem?
  intro t
  by_cases ht : t < D.length + r - 1
  · rw [h.2 t ht, if_neg (by omega)]
    simp [box1, ht]
  · rw [List.getElem?_eq_none (by rw [h.1]; omega), List.getElem?_eq_none (by rw [box1_length]; omega)]
/-! ### The greatest element -/
/-- m is above b exactly if one of the first k elements is. -/
def MaxTo (xs : List Int) (k : Nat) (m : Int) : Prop := ∀ b, b < m ↔ ∃ x ∈ xs.take k, b < x
theorem maxTo_one {xs : List Int} (h : 0 < xs.length) : MaxTo xs 1 xs[0] := by
  intro b
  have e : xs.take 1 = [xs[0]] := by rw [List.take_succ_eq_append_getElem h]; simp
  rw [e]; simp
theorem maxTo_step {xs : List Int} {k : Nat} {m : Int} (h : MaxTo xs k m) (hk : k < xs.length) : MaxTo xs (k + 1) (max m xs[k]) := by
  intro b
  rw [List.take_succ_eq_append_getElem hk]
  have := h b
  constructor
  · intro hb
    by_cases hc : b < m
    · obtain ⟨x, hx, hb'⟩ := this.1 hc
      exact ⟨x, List.mem_append_left _ hx, hb'⟩
    · exact ⟨xs[k], List.mem_append_right _ (List.mem_singleton.2 rfl), by omega⟩
  · rintro ⟨x, hx, hb⟩
    rw [List.mem_append] at hx
    rcases hx with hx | hx
    · have := this.2 ⟨x, hx, hb⟩; omega
    · simp at hx; subst hx; omega
theorem maxTo_end {xs : List Int} {m : Int} (h : MaxTo xs xs.length m) (b : Int) : decide (b < m) = xs.any fun x => decide (b < x) := by
  have := h b
  rw [List.take_of_length_le (Nat.le_refl _)] at this
  rw [Bool.eq_iff_iff, decide_eq_true_eq, List.any_eq_true, this]
  simp
def bigB (x : Int) : Bool := decide (1000000 < x)
def boxOk (o r k : Int) : Bool := inB o 1 6 && inB r 1 100 && inB k 2 62 && decide (o * (r - 1) + 1 ≤ 100) && !(boxN r.toNat o.toNat).any bigB
def boxes (o r k : Int) : List Int × Bool := if boxOk o r k then (boxN r.toNat o.toNat, true) else ([], false)
end Go.Proofs.Ytkdlmddofnnngaa
