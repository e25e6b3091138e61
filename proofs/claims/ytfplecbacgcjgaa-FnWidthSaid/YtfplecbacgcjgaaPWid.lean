/- Plain law: the growth of a comb is the least width. No program. -/
import Derived.Test.YtfplecbacgcjgaaPGrow
import Derived.Test.YtfplecbacgcjgaaPCut
namespace Go.Proofs.Ytfplecbacgcjgaa
open Go.RowKit
set_option linter.unusedVariables false
set_option linter.unusedSimpArgs false
theorem growFrom_least (v : Int) : ∀ (f k : Nat), v ≤ 2 ^ (k + f - 2) - 1 → 1 ≤ f → 2 ≤ k → ∃ w : Nat, growFrom f k v = ((w : Int), true) ∧ k ≤ w ∧ w < k + f ∧ v ≤ 2 ^ (w - 1) - 1 ∧ (k < w → 2 ^ (w - 2) ≤ v)
  | 0, _, _, h, _ => absurd h (by omega)
  | f + 1, k, hv, _, hk => by
    unfold growFrom
    by_cases hc : v ≤ 2 ^ (k - 1) - 1
    · rw [if_pos hc]
      exact ⟨k, rfl, Nat.le_refl _, by omega, hc, fun h => absurd h (Nat.lt_irrefl _)⟩
    · rw [if_neg hc]
      have hf : 1 ≤ f := by
        rcases Nat.eq_zero_or_pos f with h0 | h0
        · subst h0; exact absurd hv (by rw [show k + (0 + 1) - 2 = k - 1 by omega]; exact hc)
        · exact h0
      obtain ⟨w, h1, h2, h3, h4, h5⟩ := growFrom_least v f (k + 1) (by rw [show k + 1 + f - 2 = k + (f + 1) - 2 by omega]; exact hv) hf (by omega)
      refine ⟨w, h1, by omega, by omega, h4, fun _ => ?_⟩
      by_cases he : w = k + 1
      · subst he
        rw [show k + 1 - 2 = k - 1 by omega]; omega
      · exact h5 (by omega)
/-- The greatest sums of a comb want its growth, and no bit less. -/
theorem width_of {v : Int} (h1 : 1 ≤ v) (h2 : v ≤ 1000000000000) : ∃ w : Nat, growFrom 61 2 v = ((w : Int), true) ∧ 2 ≤ w ∧ w ≤ 62 ∧ wrapW v w = v ∧ wrapW (-v) w = -v ∧ (2 < w → wrapW v ((w : Int) - 1) ≠ v) := by
  obtain ⟨w, e, a1, a2, a3, a4⟩ := growFrom_least v 61 2 (by rw [show 2 + 61 - 2 = 61 by omega, show (2 : Int) ^ 61 = 2305843009213693952 by decide]; omega) (by omega) (by omega)
  have hn : ((w : Int)).toNat = w := by simp
  refine ⟨w, e, a1, by omega, ?_, ?_, fun hw hc => ?_⟩
  · exact wrapW_in (by omega) (by rw [hn]; have := two_pow_pos (w - 1); omega) (by rw [hn]; omega)
  · exact wrapW_in (by omega) (by rw [hn]; omega) (by rw [hn]; have := two_pow_pos (w - 1); omega)
  · have h := (wrapW_out (by omega) hc).2
    have h5 := a4 hw
    rw [show ((w : Int) - 1).toNat - 1 = w - 2 by omega] at h
    omega
theorem gain_bd {S : Int} {r j : Nat} (s1 : 1 ≤ S) (s2 : S ≤ 65026) (r1 : 1 ≤ r) (r2 : r ≤ 6) (hj : j ≤ 4) : 1 ≤ S * (r : Int) ^ j ∧ S * (r : Int) ^ j ≤ 84273696 := by
  have h1 := pow_ge_one (r : Int) (by omega) j
  have h2 := pow6 r2 hj
  have e : (r : Int) ^ j = ((r ^ j : Nat) : Int) := by simp
  rw [e] at h1 ⊢
  have h3 : S * ((r ^ j : Nat) : Int) ≤ 65026 * 1296 := Int.mul_le_mul s2 (by omega) (by omega) (by omega)
  have h4 : 1 * 1 ≤ S * ((r ^ j : Nat) : Int) := Int.mul_le_mul s1 h1 (by omega) (by omega)
  omega
theorem mul255 {a b A B : Int} (a0 : 0 ≤ a) (a1 : a ≤ A) (b0 : 0 ≤ b) (b1 : b ≤ B) : 0 ≤ a * b ∧ a * b ≤ A * B :=
  ⟨Int.mul_nonneg a0 b0, Int.mul_le_mul a1 b1 b0 (by omega)⟩
theorem wrap_62 {a : Int} (h1 : -1000000000 ≤ a) (h2 : a ≤ 1000000000) : wrapW a 62 = a := wrapW_in (by omega) (by simp; omega) (by simp; omega)
/-- Two numbers, wrapped; their sum. -/
theorem words_of {a b V : Int} (a1 : -5000000 ≤ a) (a2 : a ≤ 11581375) (V1 : 2 ≤ V) (V2 : V ≤ 31) :
    ∃ x y z : Int, wrapW a V = x ∧ wrapW b V = y ∧ wrapW x V = x ∧ wrapW (x + y) V = z ∧ wrapW (a + b) V = z ∧ wrapW a 62 = a ∧ -1073741824 ≤ x ∧ x ≤ 1073741824 ∧ -1073741824 ≤ y ∧ y ≤ 1073741824 := by
  have hb : ∀ t : Int, -1073741824 ≤ wrapW t V ∧ wrapW t V ≤ 1073741824 := fun t => by
    have h := wrapW_lo t V V1
    have h2 := two_pow_le (V.toNat - 1) 30 (by omega)
    have e : (2 : Int) ^ 30 = 1073741824 := by decide
    omega
  exact ⟨wrapW a V, wrapW b V, wrapW (a + b) V, rfl, rfl, wrapW_wrapW a V, wrapW_add a b V, rfl, wrap_62 (by omega) (by omega), (hb a).1, (hb a).2, (hb b).1, (hb b).2⟩
end Go.Proofs.Ytfplecbacgcjgaa
