import Derived.Test.YtgkijkenbjjnmaaGreatDoorPComb
import Derived.Test.YtgkijkenbjjnmaaGreatDoorMat
import Derived.Deep.RegionLaw
import Derived.IntWalk
import Derived.Test.YtgkijkenbjjnmaaGreatDoorBase
import Derived.BigQuiet
import Derived.Test.YtgkijkenbjjnmaaGreatDoorGen
import Derived.Test.YtgkijkenbjjnmaaGreatDoorArgB
/- Contracts of MechanicalWord where it gives a word. -/
namespace Go.Proofs.YtgkijkenbjjnmaaGreatDoor
open Go.RowKit
set_option linter.unusedVariables false
set_option linter.unusedSimpArgs false
theorem flo_bd {p q f : Int} (hq : 1 ≤ q) (hq2 : q ≤ 500) (h0 : 0 ≤ p) (h1 : p ≤ q) (f0 : 0 ≤ f) (f1 : f < q) (k : Nat) (hk : k ≤ 1001) : 0 ≤ (k : Int) * p ∧ (k : Int) * p ≤ 500500 ∧ 0 ≤ flo p q f k ∧ flo p q f k ≤ 501000 := by
  have e1 : 0 ≤ (k : Int) * p := Int.mul_nonneg (by omega) h0
  have e2 : (k : Int) * p ≤ 1001 * 500 := Int.mul_le_mul (by omega) (by omega) h0 (by omega)
  refine ⟨e1, by omega, ?_, ?_⟩
  · exact Int.ediv_nonneg (by omega) (by omega)
  · unfold flo
    have : (k * p + f) / q ≤ k * p + f := Int.ediv_le_self _ (by omega)
    omega
def RetMech (p q f : Int) (n : Nat) (w : World) (e : Ending) (w' : World) : Prop := ∃ A c, e = .returned (.tuple #[.slice A n c, .bool true]) ∧ Own w' w.heap.size A c (mech p q f n) ∧ Below w.heap.size w w'
end Go.Proofs.YtgkijkenbjjnmaaGreatDoor

/- Plain laws of Christoffel words and of their two factors. No program. -/
namespace Go.Proofs.YtgkijkenbjjnmaaGreatDoor
open Go.RowKit
set_option linter.unusedVariables false
set_option linter.unusedSimpArgs false
/-- The greatest common divisor as a combination. -/
theorem bezout : ∀ a b : Nat, ∃ x y : Int, (a : Int) * x + b * y = (Nat.gcd a b : Int) := by
  intro a b
  induction a, b using Nat.gcd.induction with
  | H0 n => exact ⟨0, 1, by simp⟩
  | H1 m n h ih =>
    obtain ⟨x, y, e⟩ := ih
    refine ⟨y - (n / m : Nat) * x, x, ?_⟩
    rw [Nat.gcd_rec]
    rw [← e]
    have h1 : (n : Int) = m * (n / m : Nat) + (n % m : Nat) := by
      have := Nat.div_add_mod n m
      rw [← Int.natCast_mul, ← Int.natCast_add, this]
    have h2 : (n : Int) * x = m * (n / m : Nat) * x + (n % m : Nat) * x := by rw [← Int.add_mul, ← h1]
    rw [h2, Int.mul_sub, Int.mul_assoc]
    omega
def christ (p q : Nat) : List Int := mech p q 0 q
/-- Between the ends q parts no multiple of p. -/
theorem no_part {p q k : Nat} (hg : Nat.gcd p q = 1) (h0 : 0 < k) (h1 : k < q) : (k * p) % q ≠ 0 := by
  intro h
  have hd : q ∣ k * p := Nat.dvd_of_mod_eq_zero h
  have hc : Nat.Coprime q p := by unfold Nat.Coprime; rw [Nat.gcd_comm]; exact hg
  have := Nat.le_of_dvd h0 (hc.dvd_of_dvd_mul_right hd)
  omega
theorem flo_nat (p q k : Nat) : flo p q 0 k = ((k * p / q : Nat) : Int) := by
  unfold flo; simp
theorem flo_neg {p q k : Nat} (hg : Nat.gcd p q = 1) (h0 : 0 < k) (h1 : k < q) : flo p q 0 (q - k) = p - flo p q 0 k - 1 := by
  rw [flo_nat, flo_nat]
  have hn := no_part hg h0 h1
  have e1 := Nat.div_add_mod (k * p) q
  have e2 := Nat.div_add_mod ((q - k) * p) q
  have l1 := Nat.mod_lt (k * p) (show q > 0 by omega)
  have l2 := Nat.mod_lt ((q - k) * p) (show q > 0 by omega)
  have hs : (q - k) * p + k * p = q * p := by rw [← Nat.add_mul]; congr 1; omega
  have hmod : ((q - k) * p) % q + (k * p) % q = q := by
    have : (((q - k) * p) % q + (k * p) % q) % q = 0 := by rw [← Nat.add_mod, hs]; exact Nat.mul_mod_right q p
    have hlt : ((q - k) * p) % q + (k * p) % q < 2 * q := by omega
    rcases Nat.lt_or_ge (((q - k) * p) % q + (k * p) % q) q with h | h
    · rw [Nat.mod_eq_of_lt h] at this; omega
    · have h3 : ((q - k) * p) % q + (k * p) % q = q + (((q - k) * p) % q + (k * p) % q - q) := by omega
      rw [h3, Nat.add_mod_left, Nat.mod_eq_of_lt (by omega)] at this
      omega
  have : q * ((q - k) * p / q + k * p / q + 1) = q * p := by rw [Nat.mul_add, Nat.mul_add]; omega
  have := Nat.eq_of_mul_eq_mul_left (show 0 < q by omega) this
  omega
theorem christ_length (p q : Nat) : (christ p q).length = q := mech_length _ _ _ _
theorem christ_at {p q i : Nat} (h : i < q) : (christ p q).getD i 0 = flo p q 0 (i + 1) - flo p q 0 i := lst_getD _ h
theorem flo_whole (p q : Nat) (h : 0 < q) : flo p q 0 q = p := by rw [flo_nat, Nat.mul_div_cancel_left p h]
theorem flo_start (p q : Nat) : flo p q 0 0 = 0 := by rw [flo_nat]; simp
theorem christ_first {p q : Nat} (h : p < q) : (christ p q).getD 0 0 = 0 := by
  rw [christ_at (by omega), flo_nat, flo_nat]; simp [Nat.div_eq_of_lt h]
theorem christ_last {p q : Nat} (hg : Nat.gcd p q = 1) (h : p < q) (h0 : 2 ≤ q) : (christ p q).getD (q - 1) 0 = 1 := by
  rw [christ_at (by omega), show q - 1 + 1 = q by omega, flo_whole _ _ (by omega), flo_neg hg (by omega) (by omega)]
  have : flo p q 0 1 = 0 := by rw [flo_nat]; simp [Nat.div_eq_of_lt h]
  omega
theorem christ_pal {p q i : Nat} (hg : Nat.gcd p q = 1) (h0 : 1 ≤ i) (h1 : i + 1 < q) : (christ p q).getD (q - 1 - i) 0 = (christ p q).getD i 0 := by
  rw [christ_at (by omega), christ_at (by omega), show q - 1 - i + 1 = q - i by omega, flo_neg hg (by omega) (by omega), show q - 1 - i = q - (i + 1) by omega, flo_neg hg (by omega) (by omega)]
  omega
/-- The two factors. -/
theorem christ_app {a b c d : Nat} (hb : 1 ≤ b) (hd : 1 ≤ d) (h : (c : Int) * b - a * d = 1) : christ (a + c) (b + d) = christ a b ++ christ c d := by
  have hN : c * b = a * d + 1 := by
    have h' : ((c * b : Nat) : Int) = ((a * d + 1 : Nat) : Int) := by
      rw [Int.natCast_mul, Int.natCast_add, Int.natCast_mul]; simp; omega
    exact Int.ofNat.inj h'
  -- below b + d the floors of the multiples of (a + c) / (b + d) are those of a / b, up to b, and those of c / d behind it
  have f1 : ∀ i, i ≤ b → flo (a + c : Nat) (b + d : Nat) 0 i = flo a b 0 i := by
    intro i hi
    rw [flo_nat, flo_nat]
    congr 1
    have e := Nat.div_add_mod (i * a) b
    have hl := Nat.mod_lt (i * a) (show b > 0 by omega)
    have hm := Nat.mod_le (i * a) b
    rw [Nat.div_eq_iff (by omega)]
    -- with i a = b u + v: b (i (a + c)) = (b + d) (b u + v) + i
    have key : b * (i * (a + c)) = (b + d) * (i * a) + i := by
      have : b * (i * (a + c)) = i * (b * a) + i * (c * b) := by
        rw [Nat.mul_add, Nat.mul_add, Nat.mul_left_comm b i a, Nat.mul_left_comm b i c, Nat.mul_comm b c]
      rw [this, hN, Nat.add_mul, Nat.mul_add, Nat.mul_left_comm b i a, Nat.mul_one]
      have : d * (i * a) = i * (a * d) := by rw [Nat.mul_left_comm, Nat.mul_comm d a]
      rw [this]; omega
    generalize hu : i * a / b = u at *
    generalize hv : i * a % b = v at *
    have k2 : b * (i * (a + c)) = b * ((b + d) * u) + ((b + d) * v + i) := by
      rw [key, ← e, Nat.mul_add, Nat.mul_left_comm b (b + d) u]; omega
    have up : (b + d) * v + i < b * (b + d) := by
      have : (b + d) * v ≤ (b + d) * (b - 1) := Nat.mul_le_mul_left _ (by omega)
      have e3 : (b + d) * (b - 1) + (b + d) = (b + d) * b := by rw [← Nat.mul_succ]; congr 1; omega
      have e4 : b * (b + d) = (b + d) * b := Nat.mul_comm _ _
      omega
    constructor
    · have : b * ((b + d) * u) ≤ b * (i * (a + c)) := by omega
      have := Nat.le_of_mul_le_mul_left this (by omega)
      rw [Nat.mul_comm]; exact this
    · have e5 : b * ((b + d) * u) + b * (b + d) = b * ((b + d) * (u + 1)) := by rw [← Nat.mul_add, Nat.mul_succ]
      have : b * (i * (a + c)) < b * ((b + d) * (u + 1)) := by omega
      have := Nat.lt_of_mul_lt_mul_left this
      rw [Nat.mul_succ, Nat.mul_comm (b + d) u] at this
      omega
  have f2 : ∀ j, j ≤ d → flo (a + c : Nat) (b + d : Nat) 0 (b + j) = a + flo c d 0 j := by
    intro j hj
    rw [flo_nat, flo_nat, ← Int.natCast_add]
    congr 1
    have e := Nat.div_add_mod (j * c) d
    have hl := Nat.mod_lt (j * c) (show d > 0 by omega)
    rw [Nat.div_eq_iff (by omega)]
    -- d ((b + j) (a + c)) = (b + d) (d a + j c) + (d - j)
    have key : d * ((b + j) * (a + c)) = (b + d) * (d * a + j * c) + (d - j) := by
      have x1 : d * ((b + j) * (a + c)) = b * (a * d) + d * (c * b) + j * (a * d) + d * (j * c) := by
        rw [Nat.add_mul, Nat.mul_add, Nat.mul_add, Nat.mul_add, Nat.mul_add, Nat.mul_add]
        have : d * (b * a) = b * (a * d) := by rw [Nat.mul_left_comm, Nat.mul_comm d a]
        have : d * (b * c) = d * (c * b) := by rw [Nat.mul_comm b c]
        have : d * (j * a) = j * (a * d) := by rw [Nat.mul_left_comm, Nat.mul_comm d a]
        omega
      have x2 : (b + d) * (d * a + j * c) = b * (a * d) + j * (c * b) + d * (a * d) + d * (j * c) := by
        rw [Nat.add_mul, Nat.mul_add, Nat.mul_add]
        have : b * (d * a) = b * (a * d) := by rw [Nat.mul_comm d a]
        have : b * (j * c) = j * (c * b) := by rw [Nat.mul_left_comm, Nat.mul_comm b c]
        have : d * (d * a) = d * (a * d) := by rw [Nat.mul_comm d a]
        omega
      rw [x1, x2, hN, Nat.mul_succ, Nat.mul_succ]
      omega
    generalize hu : j * c / d = u at *
    generalize hv : j * c % d = v at *
    have k2 : d * ((b + j) * (a + c)) = d * ((b + d) * (a + u)) + ((b + d) * v + (d - j)) := by
      rw [key, ← e, show d * a + (d * u + v) = d * (a + u) + v by rw [Nat.mul_add]; omega, Nat.mul_add, Nat.mul_left_comm d (b + d) (a + u)]; omega
    have up : (b + d) * v + (d - j) < d * (b + d) := by
      have : (b + d) * v ≤ (b + d) * (d - 1) := Nat.mul_le_mul_left _ (by omega)
      have e3 : (b + d) * (d - 1) + (b + d) = (b + d) * d := by rw [← Nat.mul_succ]; congr 1; omega
      have e4 : d * (b + d) = (b + d) * d := Nat.mul_comm _ _
      omega
    constructor
    · have : d * ((b + d) * (a + u)) ≤ d * ((b + j) * (a + c)) := by omega
      have := Nat.le_of_mul_le_mul_left this (by omega)
      rw [Nat.mul_comm]; exact this
    · have e5 : d * ((b + d) * (a + u)) + d * (b + d) = d * ((b + d) * (a + u + 1)) := by rw [← Nat.mul_add, Nat.mul_succ]
      have : d * ((b + j) * (a + c)) < d * ((b + d) * (a + u + 1)) := by omega
      have := Nat.lt_of_mul_lt_mul_left this
      rw [Nat.mul_succ, Nat.mul_comm (b + d) (a + u)] at this
      omega
  apply List.ext_getElem?
  intro t
  by_cases h1 : t < b
  · rw [List.getElem?_append_left (by rw [christ_length]; exact h1)]
    unfold christ mech
    rw [lst_at _ (by omega), lst_at _ h1, f1 _ (by omega), f1 _ (by omega)]
  · obtain ⟨j, rfl⟩ : ∃ j, t = b + j := ⟨t - b, by omega⟩
    rw [List.getElem?_append_right (by rw [christ_length]; omega), christ_length, show b + j - b = j by omega]
    by_cases h2 : j < d
    · unfold christ mech
      rw [lst_at _ (by omega), lst_at _ h2, Nat.add_assoc, f2 _ (by omega), f2 _ (by omega)]
      congr 1; omega
    · rw [List.getElem?_eq_none (by rw [christ_length]; omega), List.getElem?_eq_none (by rw [christ_length]; omega)]
/-! ### The search for the factors -/
/-- b p is one more than a multiple of q. -/
def facB (p q b : Nat) : Bool := decide (b * p % q = 1)
/-- The least such b of f tries from b on; 0 if there is none. -/
def facFrom (p q : Nat) : Nat → Nat → Nat
  | 0, _ => 0
  | f + 1, b => if facB p q b then b else facFrom p q f (b + 1)
def facN (p q : Nat) : Nat := facFrom p q (q - 1) 1
theorem fac_hit {p q b : Nat} (h0 : 1 ≤ b) (h : b < q) (e : facB p q b = true) : facFrom p q (q - b) b = b := by
  rw [show q - b = (q - b - 1) + 1 by omega, facFrom, if_pos e]
theorem fac_miss {p q b : Nat} (h : b < q) (e : facB p q b = false) : facFrom p q (q - b) b = facFrom p q (q - (b + 1)) (b + 1) := by
  rw [show q - b = (q - (b + 1)) + 1 by omega, facFrom, if_neg (by simp [e])]
theorem fac_none {p q : Nat} : ∀ f b, facFrom p q f b = 0 → 1 ≤ b → ∀ t, b ≤ t → t < b + f → facB p q t = false
  | 0, b, _, _, t, h1, h2 => by omega
  | f + 1, b, h, hb, t, h1, h2 => by
    rw [facFrom] at h
    rcases Bool.eq_false_or_eq_true (facB p q b) with e | e
    · rw [if_pos e] at h; omega
    · rw [if_neg (by simp [e])] at h
      by_cases ht : t = b
      · subst ht; exact e
      · exact fac_none f (b + 1) h (by omega) t (by omega) (by omega)
theorem fac_some {p q : Nat} : ∀ f b, facFrom p q f b ≠ 0 → b ≤ facFrom p q f b ∧ facFrom p q f b < b + f ∧ facB p q (facFrom p q f b) = true
  | 0, b, h => absurd rfl h
  | f + 1, b, h => by
    rw [facFrom] at h ⊢
    rcases Bool.eq_false_or_eq_true (facB p q b) with e | e
    · rw [if_pos e] at h ⊢; exact ⟨Nat.le_refl _, by omega, e⟩
    · rw [if_neg (by simp [e])] at h ⊢
      have := fac_some f (b + 1) h
      exact ⟨by omega, by omega, this.2.2⟩
/-- Where p and q have no common part, there is one. -/
theorem fac_is {p q : Nat} (hg : Nat.gcd p q = 1) (hq : 1 < q) : facN p q ≠ 0 := by
  intro h
  have hn := fac_none _ _ h (Nat.le_refl _)
  obtain ⟨x, y, e⟩ := bezout p q
  rw [hg] at e
  have hq' : (q : Int) ≠ 0 := by omega
  have b0 := Int.emod_nonneg x hq'
  have b1 := Int.emod_lt_of_pos x (show (0 : Int) < q by omega)
  obtain ⟨b, hb⟩ : ∃ b : Nat, x % q = b := ⟨(x % q).toNat, by omega⟩
  have e2 : ((b * p : Nat) : Int) % q = 1 := by
    have h1 : x = q * (x / q) + x % q := by have := Int.mul_ediv_add_emod x q; omega
    have h2 : (b : Int) * p = 1 + q * (-(y + p * (x / q))) := by
      have : (p : Int) * x = p * (q * (x / q)) + p * (x % q) := by rw [← Int.mul_add, ← h1]
      rw [hb] at this
      have c1 : (p : Int) * b = b * p := Int.mul_comm _ _
      have c2 : (q : Int) * (-(y + p * (x / q))) = -(q * y) - q * (p * (x / q)) := by rw [Int.mul_neg, Int.mul_add]; omega
      have c3 : (q : Int) * (p * (x / q)) = p * (q * (x / q)) := Int.mul_left_comm _ _ _
      have c4 : ((1 : Nat) : Int) = 1 := rfl
      omega
    rw [Int.natCast_mul, h2, Int.add_mul_emod_self_left]
    exact Int.emod_eq_of_lt (by omega) (by omega)
  have e3 : b * p % q = 1 := by
    have : ((b * p % q : Nat) : Int) = 1 := by rw [Int.natCast_emod]; exact e2
    omega
  have hb1 : 1 ≤ b := by
    rcases Nat.eq_zero_or_pos b with h0 | h0
    · subst h0; simp at e3
    · exact h0
  have := hn b hb1 (by omega)
  simp [facB, e3] at this
/-- What the factors are: b p = a q + 1 with a = b p / q. -/
theorem fac_parts {p q b : Nat} (h : facB p q b = true) (hp : p < q) (hb : b < q) (h1 : 1 ≤ b) (hq : 1 < q) (hp0 : 1 ≤ p) :
    b * p = q * (b * p / q) + 1 ∧ b * p / q ≤ b ∧ b * p / q ≤ p ∧ ((p - b * p / q : Nat) : Int) * b - (b * p / q : Nat) * (q - b : Nat) = 1 ∧ p - b * p / q ≤ q - b := by
  have e : b * p % q = 1 := by simpa [facB] using h
  have e1 := Nat.div_add_mod (b * p) q
  rw [e] at e1
  have hab : b * p / q ≤ b := by
    have : b * p ≤ b * q := Nat.mul_le_mul_left _ (by omega)
    exact Nat.div_le_of_le_mul (by rw [Nat.mul_comm q b]; exact this)
  have hap : b * p / q ≤ p := by
    have : b * p ≤ q * p := Nat.mul_le_mul_right _ (by omega)
    exact Nat.div_le_of_le_mul this
  generalize b * p / q = a at *
  have hc : ((p - a : Nat) : Int) * b - (a : Nat) * (q - b : Nat) = 1 := by
    have x1 : ((p - a : Nat) : Int) = (p : Int) - a := by omega
    have x2 : ((q - b : Nat) : Int) = (q : Int) - b := by omega
    have x3 : ((b * p : Nat) : Int) = ((q * a + 1 : Nat) : Int) := by rw [← e1]
    rw [Int.natCast_mul, Int.natCast_add, Int.natCast_mul] at x3
    rw [x1, x2, Int.sub_mul, Int.mul_sub, Int.mul_comm (p : Int) b, Int.mul_comm (a : Int) q]
    have : ((1 : Nat) : Int) = 1 := rfl
    omega
  refine ⟨e1.symm, hab, hap, hc, ?_⟩
  -- c b = 1 + a d with a ≤ b
  rcases Nat.lt_or_ge (q - b) (p - a) with hlt | hge
  · exfalso
    have hN : (p - a) * b = a * (q - b) + 1 := by
      have h' : (((p - a) * b : Nat) : Int) = ((a * (q - b) + 1 : Nat) : Int) := by
        rw [Int.natCast_mul, Int.natCast_add, Int.natCast_mul]; simp; omega
      exact Int.ofNat.inj h'
    have l1 : (q - b + 1) * b ≤ (p - a) * b := Nat.mul_le_mul_right _ hlt
    have l2 : a * (q - b) ≤ b * (q - b) := Nat.mul_le_mul_right _ hab
    have l3 : (q - b + 1) * b = b * (q - b) + b := by rw [Nat.add_mul, Nat.mul_comm b]; omega
    have hb1 : b = 1 := by omega
    subst hb1
    rcases Nat.eq_zero_or_pos a with h0 | h0
    · subst h0; omega
    · obtain rfl : a = 1 := by omega
      omega
  · exact hge
theorem fac_gcd {a b c d : Nat} (h : (c : Int) * b - a * d = 1) : Nat.gcd a b = 1 ∧ Nat.gcd c d = 1 := by
  have hN : c * b = a * d + 1 := by
    have h' : ((c * b : Nat) : Int) = ((a * d + 1 : Nat) : Int) := by
      rw [Int.natCast_mul, Int.natCast_add, Int.natCast_mul]; simp; omega
    exact Int.ofNat.inj h'
  constructor
  · have h1 : Nat.gcd a b ∣ a * d := Nat.dvd_trans (Nat.gcd_dvd_left a b) (Nat.dvd_mul_right a d)
    have h2 : Nat.gcd a b ∣ a * d + 1 := by rw [← hN]; exact Nat.dvd_trans (Nat.gcd_dvd_right a b) (Nat.dvd_mul_left b c)
    exact Nat.dvd_one.1 ((Nat.dvd_add_right h1).1 h2)
  · have h1 : Nat.gcd c d ∣ a * d := Nat.dvd_trans (Nat.gcd_dvd_right c d) (Nat.dvd_mul_left d a)
    have h2 : Nat.gcd c d ∣ a * d + 1 := by rw [← hN]; exact Nat.dvd_trans (Nat.gcd_dvd_left c d) (Nat.dvd_mul_right c b)
    exact Nat.dvd_one.1 ((Nat.dvd_add_right h1).1 h2)
end Go.Proofs.YtgkijkenbjjnmaaGreatDoor
