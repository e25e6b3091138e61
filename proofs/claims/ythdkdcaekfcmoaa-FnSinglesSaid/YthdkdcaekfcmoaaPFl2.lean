/- Plain laws of binary floating point, second part: finite words and what they are worth, the nearest word's error, the operations' results. Nothing of the program. -/
import Derived.Test.YthdkdcaekfcmoaaPFlo
import Derived.Laws.FloatArith
namespace Go.Proofs.Ythdkdcaekfcmoaa.Flo
open Ieee
set_option linter.unusedVariables false
set_option linter.unusedSimpArgs false
theorem z2_le' {a b : Int} (h : (2 : Rat) ^ a ≤ 2 ^ b) : a ≤ b := by
  by_cases q : a ≤ b
  · exact q
  · exfalso
    have h1 : (2 : Rat) ^ (b + 1) ≤ 2 ^ a := z2_le (by omega)
    rw [z2_add b 1] at h1
    have h2 : (2 : Rat) ^ (1 : Int) = 2 := by decide
    rw [h2] at h1
    have := z2_pos b
    grind
theorem z2_neg (n : Nat) : (2 : Rat) ^ (-(n : Int)) * ((2 ^ n : Nat) : Rat) = 1 := by
  rw [← z2_nat, ← z2_add]; simp [Int.add_left_neg]
/-- A finite word that is worth x. -/
def Fin (f : Format) (b : Nat) (x : Rat) : Prop := ∃ s m e, f.read b = .number s m e ∧ svN s m e = x ∧ f.leastPlace ≤ e ∧ m < 2 * f.binade
def top (f : Format) : Int := ((2 ^ f.exponentBits : Nat) : Int) + f.fractionBits + f.leastPlace - 4
/-- Half of a unit of the last place, for numbers up to 1; and the least one. -/
def uu (f : Format) : Rat := 2 ^ (-(f.fractionBits : Int) - 1)
def tt (f : Format) : Rat := 2 ^ (f.leastPlace - 1)
theorem uu_pos (f : Format) : 0 < uu f := z2_pos _
theorem tt_pos (f : Format) : 0 < tt f := z2_pos _
theorem sv_abs {s : Bool} {m : Nat} {e : Int} {B : Rat} (h1 : -B ≤ svN s m e) (h2 : svN s m e ≤ B) : (m : Rat) * 2 ^ e ≤ B := by
  unfold svN at h1 h2
  cases s
  · simpa using h2
  · simp only [if_true] at h1; grind
theorem mag_nonneg (m : Nat) (e : Int) : (0 : Rat) ≤ m * 2 ^ e := Rat.mul_nonneg (by exact_mod_cast Nat.zero_le m) (Rat.le_of_lt (z2_pos e))
theorem abs_sv' {s : Bool} {m : Nat} {e : Int} {B : Rat} (h : (m : Rat) * 2 ^ e ≤ B) : -B ≤ svN s m e ∧ svN s m e ≤ B := by
  have h0 := mag_nonneg m e
  unfold svN
  cases s
  · simp only [Bool.false_eq_true, if_false]; constructor <;> grind
  · simp only [if_true]; constructor <;> grind
theorem log_le {m : Nat} {e K : Int} (hm : m ≠ 0) (h : (m : Rat) * 2 ^ e ≤ 2 ^ K) : e + m.log2 ≤ K := by
  refine z2_le' (Rat.le_trans ?_ h)
  have h1 : 2 ^ m.log2 ≤ m := Nat.log2_self_le hm
  have h2 : ((2 ^ m.log2 : Nat) : Rat) ≤ (m : Rat) := by exact_mod_cast h1
  rw [Int.add_comm, z2_add, z2_nat]
  exact Rat.mul_le_mul_of_nonneg_right h2 (Rat.le_of_lt (z2_pos e))
theorem read_zero (f : Format) (neg : Bool) : f.read (f.word neg 0) = .number neg 0 f.leastPlace := by
  have hb : 0 < f.binade := Nat.two_pow_pos _
  have hs : 0 < f.signWeight := Nat.two_pow_pos _
  have h2 : f.word neg 0 / f.signWeight % 2 = neg.toNat := by
    unfold Format.word; cases neg
    · simp
    · simp [Nat.div_self hs]
  have h3 : f.word neg 0 % f.signWeight = 0 := by
    unfold Format.word; cases neg
    · simp
    · simp
  unfold Format.read
  dsimp only
  rw [h2, h3, if_pos hb]
  cases neg <;> rfl
/-- The nearest word and its error. -/
theorem fin_write {f : Format} (h4 : 4 ≤ 2 ^ f.exponentBits) {s : Bool} {m : Nat} {e : Int} {B : Rat} (h1 : -B ≤ svN s m e) (h2 : svN s m e ≤ B) (hB : B ≤ 2 ^ top f) :
    ∃ y, Fin f (f.write (.number s m e)) y ∧ y ≤ svN s m e + (B * uu f + tt f) ∧ svN s m e ≤ y + (B * uu f + tt f) := by
  have hA := sv_abs h1 h2
  have hA0 := mag_nonneg m e
  have hu := uu_pos f
  have ht := tt_pos f
  have hB0 : 0 ≤ B := Rat.le_trans hA0 hA
  have hE : 0 ≤ B * uu f := Rat.mul_nonneg hB0 (Rat.le_of_lt hu)
  by_cases hm : m = 0
  · subst hm
    refine ⟨svN s 0 e, ⟨s, 0, f.leastPlace, ?_, by simp [svN], Int.le_refl _, by have : 0 < f.binade := Nat.two_pow_pos _; omega⟩, by grind, by grind⟩
    show f.read (f.nearest s 0 e) = _
    unfold Format.nearest
    rw [if_pos rfl]
    exact read_zero f s
  · have hl := log_le hm (Rat.le_trans hA hB)
    have hb : e + m.log2 - f.fractionBits - f.leastPlace + 4 ≤ ((2 ^ f.exponentBits : Nat) : Int) := by unfold top at hl; omega
    obtain ⟨m', e', r1, r2, r3, last, hlast, r4, r5, _⟩ := near (neg := s) hm hb h4
    refine ⟨svN s m' e', ⟨s, m', e', r1, rfl, r2, r3⟩, ?_⟩
    have hL : (2 : Rat) ^ last ≤ 2 * (B * uu f + tt f) := by
      have e2 : (2 : Rat) ^ (1 : Int) = 2 := by decide
      have q2 : (2 : Rat) ^ f.leastPlace = 2 * tt f := by
        have : f.leastPlace = 1 + (f.leastPlace - 1) := by omega
        conv => lhs; rw [this]
        rw [z2_add, e2]; rfl
      rcases Int.le_total (e + m.log2 - f.fractionBits) f.leastPlace with q | q
      · rw [Int.max_eq_right q] at hlast
        rw [hlast, q2]; grind
      · rw [Int.max_eq_left q] at hlast
        have q3 : (2 : Rat) ^ last = 2 ^ (e + m.log2) * (2 * uu f) := by
          have : last = (e + m.log2) + (1 + (-(f.fractionBits : Int) - 1)) := by omega
          rw [this, z2_add (e + m.log2), z2_add 1, e2]; rfl
        have q4 : (2 : Rat) ^ (e + m.log2) ≤ B := by
          refine Rat.le_trans ?_ hA
          have h1 : 2 ^ m.log2 ≤ m := Nat.log2_self_le hm
          have h2 : ((2 ^ m.log2 : Nat) : Rat) ≤ (m : Rat) := by exact_mod_cast h1
          rw [Int.add_comm, z2_add, z2_nat]
          exact Rat.mul_le_mul_of_nonneg_right h2 (Rat.le_of_lt (z2_pos e))
        have q5 := Rat.mul_le_mul_of_nonneg_right q4 (show 0 ≤ 2 * uu f by grind)
        rw [q3]; grind
    unfold svN
    cases s
    · simp only [Bool.false_eq_true, if_false]; constructor <;> grind
    · simp only [if_true]; constructor <;> grind
/-- What a word has room for is written as it is. -/
theorem fin_exact {f : Format} (h4 : 4 ≤ 2 ^ f.exponentBits) {s : Bool} {m : Nat} {e : Int} (hl : e + m.log2 ≤ top f) (h1 : m < 2 * f.binade) (h2 : f.leastPlace ≤ e) : Fin f (f.write (.number s m e)) (svN s m e) := by
  by_cases hm : m = 0
  · subst hm
    refine ⟨s, 0, f.leastPlace, ?_, by simp [svN], Int.le_refl _, by omega⟩
    show f.read (f.nearest s 0 e) = _
    unfold Format.nearest
    rw [if_pos rfl]
    exact read_zero f s
  · have hb : e + m.log2 - f.fractionBits - f.leastPlace + 4 ≤ ((2 ^ f.exponentBits : Nat) : Int) := by unfold top at hl; omega
    obtain ⟨m', e', r1, r2, r3, last, hlast, r4, r5, r6⟩ := near (neg := s) hm hb h4
    have hlog : m.log2 ≤ f.fractionBits := by
      have q : m < 2 ^ (f.fractionBits + 1) := by rw [Nat.pow_succ]; unfold Format.binade at h1; omega
      have := (Nat.log2_lt hm).2 q
      omega
    have := r6 (by rw [hlast]; omega)
    exact ⟨s, m', e', r1, by unfold svN; rw [this], r2, r3⟩
theorem fin_inf {f : Format} {b : Nat} {x : Rat} (h : Fin f b x) : (f.read b).isInfinity = false := by
  obtain ⟨s, m, e, h, _⟩ := h
  rw [h]; rfl
theorem fin_one {f : Format} {b : Nat} {x y : Rat} (h : Fin f b x) (k : Fin f b y) : x = y := by
  obtain ⟨s, m, e, h, rfl, _⟩ := h
  obtain ⟨s', m', e', k, rfl, _⟩ := k
  rw [h] at k; injection k with k1 k2 k3; subst k1 k2 k3; rfl
theorem fin_mul {f : Format} (h4 : 4 ≤ 2 ^ f.exponentBits) {a b : Nat} {x y B : Rat} (hx : Fin f a x) (hy : Fin f b y) (h1 : -B ≤ x * y) (h2 : x * y ≤ B) (hB : B ≤ 2 ^ top f) :
    ∃ r z, f.mul a b = some r ∧ Fin f r z ∧ z ≤ x * y + (B * uu f + tt f) ∧ x * y ≤ z + (B * uu f + tt f) := by
  obtain ⟨s, m, i, hr, rfl, _⟩ := hx
  obtain ⟨t, n, j, hr', rfl, _⟩ := hy
  rw [← prod_sv] at h1 h2 ⊢
  obtain ⟨z, hz, z1, z2⟩ := fin_write h4 h1 h2 hB
  refine ⟨_, z, ?_, hz, z1, z2⟩
  unfold Format.mul
  rw [hr, hr']; rfl
theorem fin_add {f : Format} (h4 : 4 ≤ 2 ^ f.exponentBits) {a b : Nat} {x y B : Rat} (hx : Fin f a x) (hy : Fin f b y) (h1 : -B ≤ x + y) (h2 : x + y ≤ B) (hB : B ≤ 2 ^ top f) :
    ∃ r z, f.add a b = some r ∧ Fin f r z ∧ z ≤ x + y + (B * uu f + tt f) ∧ x + y ≤ z + (B * uu f + tt f) := by
  obtain ⟨s, m, i, hr, rfl, _⟩ := hx
  obtain ⟨t, n, j, hr', rfl, _⟩ := hy
  obtain ⟨u, k, hs, hv⟩ := sum_sv s t m n i j
  rw [← hv] at h1 h2 ⊢
  obtain ⟨z, hz, z1, z2⟩ := fin_write h4 h1 h2 hB
  refine ⟨_, z, ?_, hz, z1, z2⟩
  unfold Format.add
  rw [hr, hr', hs]; rfl
/-- A quotient by a number that is not zero: q times it is off by d at most. -/
theorem fin_div {f : Format} (h4 : 4 ≤ 2 ^ f.exponentBits) {a b : Nat} {x y : Rat} (hx : Fin f a x) (hy : Fin f b y) (hy0 : y ≠ 0) :
    ∃ (r : Nat) (s : Bool) (q : Nat) (e : Int) (Q d A : Rat), f.div a b = some r ∧ r = f.write (.number s q e) ∧ svN s q e = Q ∧ 0 ≤ d ∧ 2 * d * ((2 ^ (f.fractionBits + 1) : Nat) : Rat) ≤ A ∧ (A = x ∨ A = -x) ∧ 0 ≤ A ∧ Q * y ≤ x + d ∧ x ≤ Q * y + d := by
  obtain ⟨s, m, i, hr, rfl, _⟩ := hx
  obtain ⟨t, n, j, hr', rfl, _⟩ := hy
  have hn : n ≠ 0 := fun e => hy0 (by subst e; simp [svN])
  have hA0 := mag_nonneg m i
  have hAx : (m : Rat) * 2 ^ i = svN s m i ∨ (m : Rat) * 2 ^ i = -svN s m i := by
    unfold svN; cases s
    · left; simp
    · right; simp only [if_true]; grind
  by_cases hm : m = 0
  · subst hm
    refine ⟨_, s ^^ t, 0, i - j - ((f.fractionBits + 2 + n.log2 - Nat.log2 0 : Nat) : Int) - 1, 0, 0, ((0 : Nat) : Rat) * 2 ^ i, ?_, rfl, by simp [svN], by grind, by simp, hAx, hA0, by simp [svN]; grind, by simp [svN]; grind⟩
    unfold Format.div Datum.quotient
    rw [hr, hr']
    dsimp only
    rw [if_neg hn]
    simp
  · obtain ⟨q, e, d, hq, q0, d0, d1, d2, d3⟩ := quot_sv (f.fractionBits + 2) hm hn s t i j
    refine ⟨_, s ^^ t, q, e, svN (s ^^ t) q e, d, (m : Rat) * 2 ^ i, ?_, rfl, rfl, d0, ?_, hAx, hA0, ?_⟩
    · unfold Format.div
      rw [hr, hr', hq]; rfl
    · have : ((2 ^ (f.fractionBits + 2) : Nat) : Rat) = 2 * ((2 ^ (f.fractionBits + 1) : Nat) : Rat) := by
        rw [Nat.pow_succ 2 (f.fractionBits + 1)]; push_cast; grind
      rw [this] at d1; grind
    · unfold svN
      cases s <;> cases t <;> simp only [Bool.xor_self, Bool.xor_true, Bool.xor_false, Bool.not_false, Bool.not_true, Bool.false_eq_true, if_false, if_true, Bool.false_xor, Bool.true_xor] <;> constructor <;> grind
theorem fin_order {f : Format} {a b : Nat} {x y : Rat} (hx : Fin f a x) (hy : Fin f b y) : ∃ o, f.order a b = some o ∧ (o = .lt ↔ x < y) ∧ (o = .eq ↔ x = y) ∧ (o = .gt ↔ y < x) := by
  obtain ⟨s, m, i, hr, rfl, _⟩ := hx
  obtain ⟨t, n, j, hr', rfl, _⟩ := hy
  unfold Format.order
  rw [hr, hr']
  exact order_sv s t m n i j
/-- The whole part, cut towards zero. -/
theorem fin_toInt {f : Format} {b : Nat} {x : Rat} (h : Fin f b x) : ∃ n : Int, (f.read b).toInt .zero = some n ∧ (0 ≤ x → (n : Rat) ≤ x ∧ x < n + 1) ∧ (x < 0 → x ≤ n ∧ (n : Rat) < x + 1) := by
  obtain ⟨s, m, e, hr, rfl, _⟩ := h
  obtain ⟨k, hk, k1, k2⟩ := toInt_sv s m e
  have h0 := mag_nonneg m e
  rw [hr]
  refine ⟨_, hk, ?_⟩
  unfold svN
  cases s
  · simp only [Bool.false_eq_true, if_false]
    refine ⟨fun _ => ⟨by push_cast; exact k1, by push_cast; exact k2⟩, fun h => ?_⟩
    exfalso; grind
  · simp only [if_true]
    refine ⟨fun h => ?_, fun _ => ⟨by push_cast; grind, by push_cast; grind⟩⟩
    have z : (m : Rat) * 2 ^ e = 0 := by grind
    rw [z] at k1 k2 ⊢
    have hk0 : k = 0 := by
      have : (k : Rat) ≤ ((0 : Nat) : Rat) := by simpa using k1
      have : k ≤ 0 := by exact_mod_cast this
      omega
    subst hk0
    constructor
    · simp
    · simp; grind
end Go.Proofs.Ythdkdcaekfcmoaa.Flo
