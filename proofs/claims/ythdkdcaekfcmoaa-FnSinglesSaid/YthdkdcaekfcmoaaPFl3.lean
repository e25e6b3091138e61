/- Plain laws of the singles: division by a scale to single precision, and multiplication, rounding; what a NaN does. -/
import Derived.Test.YthdkdcaekfcmoaaPFl2
namespace Go.Proofs.Ythdkdcaekfcmoaa.Flo
open Ieee
set_option linter.unusedVariables false
set_option linter.unusedSimpArgs false
theorem exp64 : 4 ≤ 2 ^ double.exponentBits := by decide
theorem exp32 : 4 ≤ 2 ^ single.exponentBits := by decide
theorem top64 : top double = 1022 := by decide
theorem top32 : top single = 126 := by decide
theorem z2_one (n : Nat) : (1 : Rat) ≤ 2 ^ (n : Int) := by
  have := z2_le (a := 0) (b := n) (by omega)
  simpa using this
theorem nat_le_z2 {m n : Nat} (h : m ≤ 2 ^ n) : (m : Rat) ≤ 2 ^ (n : Int) := by
  rw [z2_nat]; exact_mod_cast h
/-- A whole number's word. -/
theorem fin_int {n : Int} (h : n.natAbs ≤ 4503599627370496) : Fin double (floatOfInt .f64 n) n := by
  have hs := abs_sv (decide (n < 0)) n 0 (.inr rfl)
  have : Fin double (double.write (.number (decide (n < 0)) n.natAbs 0)) (svN (decide (n < 0)) n.natAbs 0) := by
    refine fin_exact exp64 ?_ ?_ ?_
    · rw [top64]
      by_cases h0 : n.natAbs = 0
      · rw [h0]; decide
      · have := (Nat.log2_lt h0).2 (show n.natAbs < 2 ^ 53 by omega)
        omega
    · have : 2 * double.binade = 9007199254740992 := by decide
      omega
    · decide
  rw [hs] at this
  have e : (n : Rat) * 2 ^ (0 : Int) = n := by simp
  rw [e] at this
  exact this
theorem fin_int32 (n : Int) (h : n.natAbs ≤ 4503599627370496) : ∃ y, Fin single (floatOfInt .f32 n) y := by
  have hs := abs_sv (decide (n < 0)) n 0 (.inr rfl)
  have hB : (n.natAbs : Rat) ≤ 2 ^ ((53 : Nat) : Int) := nat_le_z2 (by omega)
  have hm : ((n.natAbs : Nat) : Rat) * 2 ^ (0 : Int) = n.natAbs := by simp
  have hb := abs_sv' (s := decide (n < 0)) (m := n.natAbs) (e := 0) (B := 2 ^ ((53 : Nat) : Int)) (by rw [hm]; exact hB)
  obtain ⟨y, hy, _⟩ := fin_write (f := single) exp32 hb.1 hb.2 (by rw [top32]; exact z2_le (by omega))
  exact ⟨y, hy⟩
theorem uu64 : uu double * 9007199254740992 = 1 := by
  have e : (-(double.fractionBits : Int) - 1) = -((53 : Nat) : Int) := by decide
  have h := z2_neg 53
  unfold uu
  rw [e]
  have e2 : ((2 ^ 53 : Nat) : Rat) = 9007199254740992 := by
    have : (2 ^ 53 : Nat) = 9007199254740992 := by decide
    rw [this]; rfl
  rw [e2] at h
  exact h
theorem uu32 : uu single * 16777216 = 1 := by
  have e : (-(single.fractionBits : Int) - 1) = -((24 : Nat) : Int) := by decide
  have h := z2_neg 24
  unfold uu
  rw [e]
  have e2 : ((2 ^ 24 : Nat) : Rat) = 16777216 := by
    have : (2 ^ 24 : Nat) = 16777216 := by decide
    rw [this]; rfl
  rw [e2] at h
  exact h
/-- The least ones are far below what is asked. -/
theorem tt_le : ∃ k : Rat, tt double ≤ k ∧ tt single ≤ k ∧ 0 < k ∧ k * 1152921504606846976 = 1 := by
  have h := z2_neg 60
  have e2 : ((2 ^ 60 : Nat) : Rat) = 1152921504606846976 := by
    have : (2 ^ 60 : Nat) = 1152921504606846976 := by decide
    rw [this]; rfl
  rw [e2] at h
  refine ⟨2 ^ (-((60 : Nat) : Int)), ?_, ?_, z2_pos _, h⟩
  · unfold tt; exact z2_le (by decide)
  · unfold tt; exact z2_le (by decide)
theorem mul_both {a b S : Rat} (h : a ≤ b) (hS : 0 ≤ S) : a * S ≤ b * S := Rat.mul_le_mul_of_nonneg_right h hS
theorem le_of_both {a b S : Rat} (h : a * S ≤ b * S) (hS : 0 < S) : a ≤ b := Rat.le_of_mul_le_mul_right h hS
/-- The quotient of two whole numbers, in double and then in single precision: times the scale it is near the number. -/
theorem sgl_near {v s : Int} {M : Rat} (hM1 : 1 ≤ M) (hM2 : M ≤ 1099511627776) (hv1 : -M ≤ v) (hv2 : (v : Rat) ≤ M) (hs : 1 ≤ s ∧ s ≤ 1099511627776) :
    ∃ r r2 z2, floatBits .quo .f64 (floatOfInt .f64 v) (floatOfInt .f64 s) = some r ∧ floatToFloatBits .f64 r .f32 = some r2 ∧ Fin single r2 z2 ∧
      z2 * s ≤ v + (M * (1 / 8000000) + 1 / 1000) ∧ (v : Rat) ≤ z2 * s + (M * (1 / 8000000) + 1 / 1000) := by
  have e40 : ((1099511627776 : Int) : Rat) = 1099511627776 := rfl
  have e40n : ((-1099511627776 : Int) : Rat) = -1099511627776 := rfl
  have hvi : -1099511627776 ≤ v ∧ v ≤ 1099511627776 := by
    have h1 : (v : Rat) ≤ ((1099511627776 : Int) : Rat) := by rw [e40]; grind
    have h2 : ((-1099511627776 : Int) : Rat) ≤ v := by rw [e40n]; grind
    exact ⟨Rat.intCast_le_intCast.1 h2, Rat.intCast_le_intCast.1 h1⟩
  have hS1 : (1 : Rat) ≤ s := by have := Rat.intCast_le_intCast.2 hs.1; exact this
  have hS2 : (s : Rat) ≤ 1099511627776 := by rw [← e40]; exact Rat.intCast_le_intCast.2 hs.2
  clear e40 e40n
  have fv := fin_int (n := v) (by omega)
  have fs := fin_int (n := s) (by omega)
  obtain ⟨S, hSe⟩ : ∃ S : Rat, S = s := ⟨_, rfl⟩
  obtain ⟨V, hVe⟩ : ∃ V : Rat, V = v := ⟨_, rfl⟩
  rw [← hSe] at hS1 hS2 fs ⊢
  rw [← hVe] at hv1 hv2 fv ⊢
  have hS0 : 0 < S := by grind
  obtain ⟨r, sg, q, e, Q, d, A, h1, h2, h3, d0, d1, hA, hA0, q1, q2⟩ := fin_div exp64 fv fs (by grind)
  have hAM : A ≤ M := by rcases hA with h | h <;> grind
  have e53 : ((2 ^ (double.fractionBits + 1) : Nat) : Rat) = 9007199254740992 := by
    have : (2 ^ (double.fractionBits + 1) : Nat) = 9007199254740992 := by decide
    rw [this]; rfl
  rw [e53] at d1
  have hu := uu64
  have hu0 := uu_pos double
  have hp := uu32
  have hp0 := uu_pos single
  obtain ⟨k, k1, k2, k0, hk⟩ := tt_le
  have t0 := tt_pos double
  have t0' := tt_pos single
  obtain ⟨u, hue⟩ : ∃ u, u = uu double := ⟨_, rfl⟩
  obtain ⟨p, hpe⟩ : ∃ u, u = uu single := ⟨_, rfl⟩
  obtain ⟨t, hte⟩ : ∃ u, u = tt double := ⟨_, rfl⟩
  obtain ⟨t', hte'⟩ : ∃ u, u = tt single := ⟨_, rfl⟩
  rw [← hue] at hu hu0
  rw [← hpe] at hp hp0
  rw [← hte] at k1 t0
  rw [← hte'] at k2 t0'
  -- B: twice M through the scale
  obtain ⟨B, hB⟩ : ∃ B : Rat, B * S = 2 * M := ⟨2 * M * S⁻¹, by rw [Rat.mul_assoc, Rat.inv_mul_cancel _ (by grind), Rat.mul_one]⟩
  have hkS : k * S ≤ k * 1099511627776 := Rat.mul_le_mul_of_nonneg_left hS2 (Rat.le_of_lt k0)
  have htS : t * S ≤ k * S := mul_both k1 (Rat.le_of_lt hS0)
  have htS' : t' * S ≤ k * S := mul_both k2 (Rat.le_of_lt hS0)
  have hdM : d ≤ M * (1 / 1000000) := by grind
  have hQ1 : Q ≤ B := le_of_both (by grind) hS0
  have hQ2 : -B ≤ Q := le_of_both (S := S) (by grind) hS0
  have hB0 : 0 ≤ B := le_of_both (S := S) (by grind) hS0
  have hBM : B ≤ 2 * M := by
    have := Rat.mul_le_mul_of_nonneg_left hS1 hB0
    grind
  have h42 : (2199023255552 : Rat) ≤ 2 ^ ((42 : Nat) : Int) := by
    rw [z2_nat]
    have : (2 ^ 42 : Nat) = 4398046511104 := by decide
    rw [this]
    have e : ((4398046511104 : Nat) : Rat) = 4398046511104 := rfl
    rw [e]; grind
  have hB64 : B ≤ 2 ^ top double := by
    have : (2 : Rat) ^ ((42 : Nat) : Int) ≤ 2 ^ top double := by rw [top64]; exact z2_le (by decide)
    grind
  have hB32 : B ≤ 2 ^ top single := by
    have : (2 : Rat) ^ ((42 : Nat) : Int) ≤ 2 ^ top single := by rw [top32]; exact z2_le (by decide)
    grind
  obtain ⟨z, fz, z1, z2⟩ := fin_write exp64 (s := sg) (m := q) (e := e) (B := B) (by rw [h3]; exact hQ2) (by rw [h3]; exact hQ1) hB64
  rw [← h2] at fz
  rw [h3, ← hue, ← hte] at z1 z2
  have z1S := mul_both z1 (Rat.le_of_lt hS0)
  have z2S := mul_both z2 (Rat.le_of_lt hS0)
  have eE : (B * u + t) * S = 2 * M * u + t * S := by grind
  have eM : M * u * 9007199254740992 = M := by rw [Rat.mul_assoc, hu, Rat.mul_one]
  have y1 : z * S ≤ Q * S + (2 * M * u + t * S) := by grind
  have y2 : Q * S ≤ z * S + (2 * M * u + t * S) := by grind
  have hMu : M * u ≤ M * (1 / 1000000000000) := by grind
  have hz1 : z ≤ B := le_of_both (S := S) (by grind) hS0
  have hz2 : -B ≤ z := le_of_both (S := S) (by grind) hS0
  obtain ⟨s', m', e', r1, r2, r3, r4⟩ := fz
  obtain ⟨x, fx, x1, x2⟩ := fin_write exp32 (s := s') (m := m') (e := e') (B := B) (by rw [r2]; exact hz2) (by rw [r2]; exact hz1) hB32
  rw [r2, ← hpe, ← hte'] at x1 x2
  have x1S := mul_both x1 (Rat.le_of_lt hS0)
  have x2S := mul_both x2 (Rat.le_of_lt hS0)
  have eF : (B * p + t') * S = 2 * M * p + t' * S := by grind
  have eP : M * p * 16777216 = M := by rw [Rat.mul_assoc, hp, Rat.mul_one]
  refine ⟨r, _, x, h1, ?_, fx, ?_, ?_⟩
  · have r1' : FloatKind.f64.decode r = .number s' m' e' := r1
    unfold floatToFloatBits
    rw [if_neg (by decide), r1']
    have := fin_inf fx
    show (if ((single.read (single.write (.number s' m' e'))).isInfinity) = true then none else some _) = _
    rw [this]
    rfl
  · grind
  · grind
end Go.Proofs.Ythdkdcaekfcmoaa.Flo
