/- Plain laws of binary floating point: what the nearest word stands for, sums, products, quotients, orders and whole parts, in rational numbers. Nothing of the program. -/
import Derived.Test.YthdkdcaekfcmoaaBase
namespace Go.Proofs.Ythdkdcaekfcmoaa.Flo
open Ieee
set_option linter.unusedVariables false
theorem cut_even (neg : Bool) (n d : Nat) : 2 * Toward.even.cut neg n d * 2 ^ d ≤ 2 * n + 2 ^ d ∧ 2 * n ≤ 2 * Toward.even.cut neg n d * 2 ^ d + 2 ^ d := by
  unfold Toward.cut
  dsimp only
  have hl : n < 2 ^ (n.log2 + 1) := Nat.lt_log2_self
  have h2 : 0 < 2 ^ d := Nat.two_pow_pos _
  by_cases h : d ≤ n.log2 + 2
  · rw [Nat.min_eq_left h, Nat.one_shiftLeft]
    have hm := Nat.div_add_mod n (2 ^ d)
    have hr := Nat.mod_lt n h2
    rw [Nat.mul_comm] at hm
    generalize n / 2 ^ d = low at *
    generalize n % 2 ^ d = rest at *
    generalize 2 ^ d = g at *
    rcases Bool.eq_false_or_eq_true (decide (g < 2 * rest) || (g == 2 * rest && low % 2 == 1)) with hb | hb
    · rw [hb]
      have hg : g ≤ 2 * rest := by
        rcases Bool.or_eq_true_iff.1 hb with q | q
        · have := of_decide_eq_true q; omega
        · have := (Bool.and_eq_true_iff.1 q).1; have := eq_of_beq this; omega
      have e : 2 * (low + true.toNat) * g = 2 * (low * g) + 2 * g := by simp [Nat.mul_add, Nat.add_mul, Nat.mul_assoc]
      rw [e]
      omega
    · rw [hb]
      have hg : 2 * rest ≤ g := by
        have q := (Bool.or_eq_false_iff.1 hb).1
        have := of_decide_eq_false q; omega
      have e : 2 * (low + false.toNat) * g = 2 * (low * g) := by simp [Nat.mul_assoc]
      rw [e]
      omega
  · rw [Nat.min_eq_right (by omega), Nat.one_shiftLeft]
    have hp : 2 ^ (n.log2 + 2) = 2 * 2 ^ (n.log2 + 1) := by rw [Nat.pow_succ 2 (n.log2 + 1)]; omega
    have hd : 2 ^ (n.log2 + 2) ≤ 2 ^ d := Nat.pow_le_pow_right (by omega) (by omega)
    rw [Nat.div_eq_of_lt (by omega), Nat.mod_eq_of_lt (by omega)]
    have hb : (decide (2 ^ (n.log2 + 2) < 2 * n) || (2 ^ (n.log2 + 2) == 2 * n && 0 % 2 == 1)) = false := by
      simp; omega
    rw [hb]
    simp
    omega
theorem z2_pos (e : Int) : (0 : Rat) < 2 ^ e := Rat.zpow_pos (by decide)
theorem z2_add (a b : Int) : (2 : Rat) ^ (a + b) = 2 ^ a * 2 ^ b := Rat.zpow_add (by decide) a b
theorem z2_nat (n : Nat) : (2 : Rat) ^ (n : Int) = ((2 ^ n : Nat) : Rat) := by
  rw [Rat.zpow_natCast]; simp
theorem z2_le {a b : Int} (h : a ≤ b) : (2 : Rat) ^ a ≤ 2 ^ b := by
  obtain ⟨n, rfl⟩ : ∃ n : Nat, b = a + n := ⟨(b - a).toNat, by omega⟩
  rw [z2_add, z2_nat]
  have h1 := z2_pos a
  have h2 : (1 : Rat) ≤ ((2 ^ n : Nat) : Rat) := by
    have : 1 ≤ 2 ^ n := Nat.one_le_two_pow
    exact_mod_cast this
  have := Rat.mul_le_mul_of_nonneg_left h2 (Rat.le_of_lt h1)
  grind
theorem z2_lt {a b : Int} (h : (2 : Rat) ^ a < 2 ^ b) : a < b := by
  by_cases q : a < b
  · exact q
  · exact absurd h (Rat.not_lt.2 (z2_le (by omega)))
/-- what a rung stands for -/
theorem read_word {f : Format} {neg : Bool} {t kept : Nat} (hr : t * f.binade + kept < f.infRung) (hk : kept ≤ 2 * f.binade) (ht : 0 < t → f.binade ≤ kept) :
    ∃ m e, f.read (f.word neg (t * f.binade + kept)) = .number neg m e ∧ (m : Rat) * 2 ^ e = (kept : Rat) * 2 ^ (f.leastPlace + t) ∧ f.leastPlace ≤ e ∧ m < 2 * f.binade := by
  have hw := f.infRung_lt
  have hb : 0 < f.binade := Nat.two_pow_pos _
  have hneg : (f.word neg (t * f.binade + kept) / f.signWeight % 2 == 1) = neg ∧ f.word neg (t * f.binade + kept) % f.signWeight = t * f.binade + kept := by
    unfold Format.word
    generalize t * f.binade + kept = r at *
    cases neg
    · simp [Nat.div_eq_of_lt (show r < f.signWeight by omega), Nat.mod_eq_of_lt (show r < f.signWeight by omega)]
    · have : 0 < f.signWeight := by omega
      simp [Nat.add_div_left, this, Nat.div_eq_of_lt (show r < f.signWeight by omega), Nat.mod_eq_of_lt (show r < f.signWeight by omega)]
  unfold Format.read
  dsimp only
  rw [hneg.1, hneg.2]
  clear hneg
  by_cases h1 : t * f.binade + kept < f.binade
  · rw [if_pos h1]
    have h0 : t = 0 := by
      rcases Nat.eq_zero_or_pos t with q | q
      · exact q
      · have := Nat.le_mul_of_pos_left f.binade q; omega
    subst h0
    exact ⟨_, _, rfl, by simp, Int.le_refl _, by omega⟩
  · rw [if_neg h1, if_pos hr]
    refine ⟨_, _, rfl, ?_, by omega, by have := Nat.mod_lt (t * f.binade + kept) hb; omega⟩
    by_cases h2 : kept < f.binade
    · have h0 : t = 0 := by
        rcases Nat.eq_zero_or_pos t with q | q
        · exact q
        · have := ht q; omega
      subst h0; simp at h1; omega
    · by_cases h3 : kept = 2 * f.binade
      · subst h3
        have e1 : t * f.binade + 2 * f.binade = (t + 2) * f.binade := by rw [Nat.add_mul]
        rw [e1, Nat.mul_mod_left, Nat.mul_div_cancel _ hb]
        have e2 : f.leastPlace + ((t + 2 - 1 : Nat) : Int) = f.leastPlace + t + 1 := by omega
        rw [e2, z2_add _ 1]
        have : (2 : Rat) ^ (1 : Int) = 2 := by decide
        rw [this]
        simp
        grind
      · have e1 : t * f.binade + kept = (t + 1) * f.binade + (kept - f.binade) := by rw [Nat.add_mul]; omega
        have e3 : ((t + 1) * f.binade + (kept - f.binade)) % f.binade = kept - f.binade := by rw [Nat.add_comm, Nat.add_mul_mod_self_right, Nat.mod_eq_of_lt (by omega)]
        have e4 : ((t + 1) * f.binade + (kept - f.binade)) / f.binade = t + 1 := by rw [Nat.add_comm, Nat.add_mul_div_right _ _ hb, Nat.div_eq_of_lt (by omega)]; omega
        rw [e1, e3, e4]
        have e5 : f.binade + (kept - f.binade) = kept := by omega
        have e6 : f.leastPlace + ((t + 1 - 1 : Nat) : Int) = f.leastPlace + t := by omega
        rw [e5, e6]

/-- The word nearest to a number, read again. -/
theorem near {f : Format} {neg : Bool} {mag : Nat} {place : Int} (h0 : mag ≠ 0) (hb : place + mag.log2 - f.fractionBits - f.leastPlace + 4 ≤ ((2 ^ f.exponentBits : Nat) : Int)) (hb2 : 4 ≤ 2 ^ f.exponentBits) :
    ∃ m e, f.read (f.nearest neg mag place) = .number neg m e ∧ f.leastPlace ≤ e ∧ m < 2 * f.binade ∧
      ∃ last : Int, last = max (place + mag.log2 - f.fractionBits) f.leastPlace ∧ 2 * ((m : Rat) * 2 ^ e) ≤ 2 * (mag * 2 ^ place) + 2 ^ last ∧ 2 * ((mag : Rat) * 2 ^ place) ≤ 2 * (m * 2 ^ e) + 2 ^ last ∧ (last ≤ place → (m : Rat) * 2 ^ e = mag * 2 ^ place) := by
  unfold Format.nearest
  rw [if_neg h0]
  dsimp only
  obtain ⟨last, hl⟩ : ∃ last : Int, last = max (place + mag.log2 - f.fractionBits) f.leastPlace := ⟨_, rfl⟩
  rw [← hl]
  have hl1 : f.leastPlace ≤ last := by omega
  have hl2 : place + mag.log2 - f.fractionBits ≤ last := by omega
  obtain ⟨a, ha⟩ : ∃ a, a = (place - last).toNat := ⟨_, rfl⟩
  obtain ⟨d, hd⟩ : ∃ d, d = (last - place).toNat := ⟨_, rfl⟩
  obtain ⟨t, htt⟩ : ∃ t, t = (last - f.leastPlace).toNat := ⟨_, rfl⟩
  rw [← ha, ← hd, ← htt, Nat.shiftLeft_eq]
  have hc := cut_even neg (mag * 2 ^ a) d
  generalize Toward.even.cut neg (mag * 2 ^ a) d = kept at *
  have hm1 : 2 ^ mag.log2 ≤ mag := Nat.log2_self_le h0
  have hm2 : mag < 2 ^ (mag.log2 + 1) := Nat.lt_log2_self
  have hB : f.binade = 2 ^ f.fractionBits := rfl
  have hd0 : 0 < 2 ^ d := Nat.two_pow_pos _
  have ha0 : 0 < 2 ^ a := Nat.two_pow_pos _
  -- above
  have hn2 : mag * 2 ^ a < 2 ^ d * (2 * f.binade) := by
    have q1 : mag * 2 ^ a < 2 ^ (mag.log2 + 1) * 2 ^ a := Nat.mul_lt_mul_of_pos_right hm2 ha0
    have q2 : 2 ^ (mag.log2 + 1) * 2 ^ a ≤ 2 ^ d * (2 * f.binade) := by
      rw [hB, ← Nat.pow_add, ← Nat.pow_succ', ← Nat.pow_add]
      exact Nat.pow_le_pow_right (by omega) (by omega)
    omega
  have hk : kept ≤ 2 * f.binade := by
    by_cases q : kept ≤ 2 * f.binade
    · exact q
    · have h1 : (2 * f.binade + 1) * 2 ^ d ≤ kept * 2 ^ d := Nat.mul_le_mul_right _ (by omega)
      have h2 := hc.1
      rw [Nat.mul_assoc] at h2
      rw [Nat.add_mul, Nat.mul_comm (2 * f.binade)] at h1
      omega
  have ht : 0 < t → f.binade ≤ kept := fun h => by
    have hn1 : 2 ^ d * f.binade ≤ mag * 2 ^ a := by
      have q1 : 2 ^ mag.log2 * 2 ^ a ≤ mag * 2 ^ a := Nat.mul_le_mul_right _ hm1
      have q2 : 2 ^ d * f.binade = 2 ^ mag.log2 * 2 ^ a := by
        rw [hB, ← Nat.pow_add, ← Nat.pow_add]
        congr 1
        omega
      omega
    by_cases q : f.binade ≤ kept
    · exact q
    · have h1 : (kept + 1) * 2 ^ d ≤ f.binade * 2 ^ d := Nat.mul_le_mul_right _ (by omega)
      have h2 := hc.2
      rw [Nat.mul_assoc] at h2
      rw [Nat.add_mul, Nat.mul_comm f.binade] at h1
      omega
  have hI : f.infRung = (2 ^ f.exponentBits - 1) * f.binade := rfl
  have hb0 : 0 < f.binade := Nat.two_pow_pos _
  have hr : t * f.binade + kept < f.infRung := by
    have h1 : (t + 3) * f.binade ≤ (2 ^ f.exponentBits - 1) * f.binade := by
      refine Nat.mul_le_mul_right _ ?_
      omega
    rw [Nat.add_mul] at h1
    omega
  rw [Nat.min_eq_left (by omega)]
  obtain ⟨m, e, h1, h2, h3, h4⟩ := read_word (neg := neg) hr hk ht
  have e1 : f.leastPlace + t = last := by omega
  rw [e1] at h2
  refine ⟨m, e, h1, h3, h4, last, rfl, ?_⟩
  rw [h2]
  have e2 : (mag : Rat) * 2 ^ place = ((mag * 2 ^ a : Nat) : Rat) * 2 ^ (last - d) := by
    have : (2 : Rat) ^ place = ((2 ^ a : Nat) : Rat) * 2 ^ (last - d) := by
      have : place = a + (last - d) := by omega
      conv => lhs; rw [this]
      rw [z2_add, z2_nat]
    rw [this]
    push_cast
    rw [Rat.mul_assoc]
  have e3 : (2 : Rat) ^ last = ((2 ^ d : Nat) : Rat) * 2 ^ (last - d) := by
    have : last = d + (last - d) := by omega
    conv => lhs; rw [this]
    rw [z2_add, z2_nat]
  rw [e2, e3]
  have hz := z2_pos (last - d)
  have c1 : ((2 * kept * 2 ^ d : Nat) : Rat) ≤ ((2 * (mag * 2 ^ a) + 2 ^ d : Nat) : Rat) := by exact_mod_cast hc.1
  have c2 : ((2 * (mag * 2 ^ a) : Nat) : Rat) ≤ ((2 * kept * 2 ^ d + 2 ^ d : Nat) : Rat) := by exact_mod_cast hc.2
  generalize (2 : Rat) ^ (last - d) = z at *
  refine ⟨?_, ?_, ?_⟩
  · have := Rat.mul_le_mul_of_nonneg_right c1 (Rat.le_of_lt hz)
    push_cast at this ⊢
    grind
  · have := Rat.mul_le_mul_of_nonneg_right c2 (Rat.le_of_lt hz)
    push_cast at this ⊢
    grind
  · intro hlp
    have d0 : d = 0 := by omega
    subst d0
    have : kept = mag * 2 ^ a := by have := hc.1; have := hc.2; omega
    rw [this]; simp
/-- what a number is worth -/
def svN (s : Bool) (m : Nat) (e : Int) : Rat := if s then -((m : Rat) * 2 ^ e) else (m : Rat) * 2 ^ e
theorem signed_rat (s : Bool) (m k : Nat) (e : Int) : ((signed s m k : Int) : Rat) * 2 ^ e = svN s m (e + k) := by
  have h : (2 : Rat) ^ (e + k) = ((2 ^ k : Nat) : Rat) * 2 ^ e := by rw [z2_add, z2_nat]; grind
  unfold signed svN
  rw [Nat.shiftLeft_eq, h]
  cases s
  · simp only [Bool.false_eq_true, if_false]; push_cast; grind
  · simp only [if_true]; push_cast; grind
theorem abs_sv (c : Bool) (x e : Int) (h : x = 0 ∨ c = decide (x < 0)) : svN c x.natAbs e = (x : Rat) * 2 ^ e := by
  unfold svN
  rcases h with h | h
  · subst h; cases c <;> simp
  · by_cases hx : x < 0
    · have : c = true := by simp [h, hx]
      subst this
      obtain ⟨n, rfl⟩ : ∃ n : Nat, x = -(n : Int) := ⟨x.natAbs, by omega⟩
      simp only [if_true, Int.natAbs_neg, Int.natAbs_natCast]; push_cast; grind
    · have : c = false := by simp [h, hx]
      subst this
      obtain ⟨n, rfl⟩ : ∃ n : Nat, x = (n : Int) := ⟨x.natAbs, by omega⟩
      simp only [Bool.false_eq_true, if_false, Int.natAbs_natCast]; push_cast; rfl
theorem sum_sv (s t : Bool) (m n : Nat) (i j : Int) : ∃ u k, (Datum.number s m i).sum (.number t n j) = some (.number u k (min i j)) ∧ svN u k (min i j) = svN s m i + svN t n j := by
  refine ⟨_, _, rfl, ?_⟩
  have h1 := signed_rat s m (i - min i j).toNat (min i j)
  have h2 := signed_rat t n (j - min i j).toNat (min i j)
  have e1 : min i j + ((i - min i j).toNat : Int) = i := by omega
  have e2 : min i j + ((j - min i j).toNat : Int) = j := by omega
  rw [e1] at h1
  rw [e2] at h2
  rw [← h1, ← h2]
  generalize signed s m (i - min i j).toNat = a
  generalize signed t n (j - min i j).toNat = b
  rw [abs_sv]
  · push_cast; grind
  · by_cases q : a + b = 0
    · exact .inl q
    · right; rw [if_neg q]
theorem prod_sv (s t : Bool) (m n : Nat) (i j : Int) : svN (s ^^ t) (m * n) (i + j) = svN s m i * svN t n j := by
  unfold svN
  rw [z2_add]
  cases s <;> cases t <;> simp only [Bool.xor_self, Bool.xor_true, Bool.xor_false, Bool.not_false, Bool.false_eq_true, if_false, if_true] <;> push_cast <;> grind
theorem order_sv (s t : Bool) (m n : Nat) (i j : Int) : ∃ o, (Datum.number s m i).order (.number t n j) = some o ∧ (o = .lt ↔ svN s m i < svN t n j) ∧ (o = .eq ↔ svN s m i = svN t n j) ∧ (o = .gt ↔ svN t n j < svN s m i) := by
  refine ⟨_, rfl, ?_⟩
  have h1 := signed_rat s m (i - min i j).toNat (min i j)
  have h2 := signed_rat t n (j - min i j).toNat (min i j)
  have e1 : min i j + ((i - min i j).toNat : Int) = i := by omega
  have e2 : min i j + ((j - min i j).toNat : Int) = j := by omega
  rw [e1] at h1
  rw [e2] at h2
  rw [← h1, ← h2]
  generalize signed s m (i - min i j).toNat = a
  generalize signed t n (j - min i j).toNat = b
  have hz := z2_pos (min i j)
  generalize (2 : Rat) ^ (min i j) = z at *
  have k1 : (a : Rat) * z < b * z ↔ a < b := by
    constructor
    · intro h; have := Rat.lt_of_mul_lt_mul_right h (Rat.le_of_lt hz); exact_mod_cast this
    · intro h; have : (a : Rat) < b := by exact_mod_cast h
      exact Rat.mul_lt_mul_of_pos_right this hz
  have k2 : (b : Rat) * z < a * z ↔ b < a := by
    constructor
    · intro h; have := Rat.lt_of_mul_lt_mul_right h (Rat.le_of_lt hz); exact_mod_cast this
    · intro h; have : (b : Rat) < a := by exact_mod_cast h
      exact Rat.mul_lt_mul_of_pos_right this hz
  have k3 : (a : Rat) * z = b * z ↔ a = b := by
    constructor
    · intro h
      have n1 : ¬ a < b := fun q => by have := k1.2 q; grind
      have n2 : ¬ b < a := fun q => by have := k2.2 q; grind
      omega
    · rintro rfl; rfl
  rw [k1, k2, k3]
  simp [Int.compare_eq_lt, Int.compare_eq_gt]
theorem toInt_sv (s : Bool) (m : Nat) (e : Int) : ∃ k : Nat, (Datum.number s m e).toInt .zero = some (if s then -(k : Int) else k) ∧ (k : Rat) ≤ m * 2 ^ e ∧ (m : Rat) * 2 ^ e < k + 1 := by
  refine ⟨Toward.cut .zero s (m <<< e.toNat) (-e).toNat, ?_, ?_⟩
  · cases s <;> simp [Datum.toInt, Datum.integral, signed]
  · obtain ⟨n, hn⟩ : ∃ n, n = m <<< e.toNat := ⟨_, rfl⟩
    obtain ⟨d, hd⟩ : ∃ d, d = (-e).toNat := ⟨_, rfl⟩
    have hz := z2_pos (-d)
    have hv : (m : Rat) * 2 ^ e = n * 2 ^ (-(d : Int)) := by
      have : e = (e.toNat : Int) + (-(d : Int)) := by omega
      conv => lhs; rw [this]
      rw [z2_add, z2_nat, hn, Nat.shiftLeft_eq]; push_cast; grind
    have hd1 : ((2 ^ d : Nat) : Rat) * 2 ^ (-(d : Int)) = 1 := by
      rw [← z2_nat, ← z2_add]; simp [Int.add_right_neg]
    have hs : n < 2 ^ (n.log2 + 1) := Nat.lt_log2_self
    have hk : Toward.cut .zero s n d * 2 ^ d ≤ n ∧ n < (Toward.cut .zero s n d + 1) * 2 ^ d := by
      unfold Toward.cut
      dsimp only
      have h2 : 0 < 2 ^ d := Nat.two_pow_pos _
      by_cases h : d ≤ n.log2 + 2
      · rw [Nat.min_eq_left h, Nat.one_shiftLeft]
        have hm := Nat.div_add_mod n (2 ^ d)
        have hr := Nat.mod_lt n h2
        rw [Nat.mul_comm] at hm
        simp only [Bool.toNat_false, Nat.add_zero, Nat.add_mul, Nat.one_mul]
        omega
      · rw [Nat.min_eq_right (by omega), Nat.one_shiftLeft]
        have hp : 2 ^ (n.log2 + 2) = 2 * 2 ^ (n.log2 + 1) := by rw [Nat.pow_succ 2 (n.log2 + 1)]; omega
        have hd : 2 ^ (n.log2 + 2) ≤ 2 ^ d := Nat.pow_le_pow_right (by omega) (by omega)
        rw [Nat.div_eq_of_lt (by omega)]
        simp
        omega
    rw [hv, ← hn, ← hd]
    generalize Toward.cut .zero s n d = k at *
    have c1 : ((k * 2 ^ d : Nat) : Rat) ≤ (n : Rat) := by exact_mod_cast hk.1
    have c2 : (n : Rat) < (((k + 1) * 2 ^ d : Nat) : Rat) := by exact_mod_cast hk.2
    have d1 := Rat.mul_le_mul_of_nonneg_right c1 (Rat.le_of_lt hz)
    have d2 := Rat.mul_lt_mul_of_pos_right c2 hz
    clear hv hs hn hk c1 c2
    generalize (2 : Rat) ^ (-(d : Int)) = z at *
    push_cast at *
    have q1 : (k : Rat) * 2 ^ d * z = k := by rw [Rat.mul_assoc, hd1, Rat.mul_one]
    have q2 : ((k : Rat) + 1) * 2 ^ d * z = k + 1 := by rw [Rat.mul_assoc, hd1, Rat.mul_one]
    rw [q1] at d1
    rw [q2] at d2
    exact ⟨d1, d2⟩
theorem quot_sv {m n : Nat} (digits : Nat) (hm : m ≠ 0) (hn : n ≠ 0) (s t : Bool) (i j : Int) :
    ∃ (q : Nat) (e : Int) (d : Rat), (Datum.number s m i).quotient digits (.number t n j) = some (.number (s ^^ t) q e) ∧ q ≠ 0 ∧ 0 ≤ d ∧ ((2 ^ digits : Nat) : Rat) * d ≤ m * 2 ^ i ∧
      (q : Rat) * 2 ^ e * (n * 2 ^ j) ≤ m * 2 ^ i + d ∧ (m : Rat) * 2 ^ i ≤ q * 2 ^ e * (n * 2 ^ j) + d := by
  obtain ⟨more, hmore⟩ : ∃ x, x = digits + n.log2 - m.log2 := ⟨_, rfl⟩
  obtain ⟨D, hD⟩ : ∃ x, x = m * 2 ^ more := ⟨_, rfl⟩
  have hq : (Datum.number s m i).quotient digits (.number t n j) = some (.number (s ^^ t) (2 * (D / n) + (D % n != 0).toNat) (i - j - more - 1)) := by
    unfold Datum.quotient
    dsimp only
    rw [if_neg hn, ← hmore, Nat.shiftLeft_eq, ← hD]
  have hdm := Nat.div_add_mod D n
  have hr := Nat.mod_lt D (Nat.pos_of_ne_zero hn)
  obtain ⟨b, hb⟩ : ∃ b, b = (D % n != 0).toNat := ⟨_, rfl⟩
  have hb' : (D % n = 0 ∧ b = 0) ∨ (D % n ≠ 0 ∧ b = 1) := by
    by_cases h : D % n = 0
    · left; exact ⟨h, by rw [hb, h]; rfl⟩
    · right; exact ⟨h, by rw [hb]; simp [h]⟩
  have hw : 2 ^ digits * n ≤ 2 * D := by
    have l1 : 2 ^ m.log2 ≤ m := Nat.log2_self_le hm
    have l2 : n < 2 ^ (n.log2 + 1) := Nat.lt_log2_self
    have l3 : 2 ^ (digits + n.log2) ≤ D := by
      rw [hD]
      calc 2 ^ (digits + n.log2) ≤ 2 ^ (m.log2 + more) := Nat.pow_le_pow_right (by omega) (by omega)
        _ = 2 ^ m.log2 * 2 ^ more := Nat.pow_add ..
        _ ≤ m * 2 ^ more := Nat.mul_le_mul_right _ l1
    calc 2 ^ digits * n ≤ 2 ^ digits * 2 ^ (n.log2 + 1) := Nat.mul_le_mul_left _ (by omega)
      _ = 2 ^ (digits + n.log2) * 2 := by rw [← Nat.pow_add, ← Nat.pow_succ]; rfl
      _ ≤ 2 * D := by omega
  rw [← hb] at hq
  obtain ⟨w, hw0⟩ : ∃ w, w = D / n := ⟨_, rfl⟩
  obtain ⟨r, hr0⟩ : ∃ r, r = D % n := ⟨_, rfl⟩
  rw [← hw0] at hdm hq
  rw [← hr0] at hdm hr hb'
  have hM : (m : Rat) * 2 ^ i * n = 2 * D * (2 ^ (i - j - more - 1) * (n * 2 ^ j)) := by
    have : (2 : Rat) ^ i = 2 ^ (i - j - more - 1) * ((2 ^ more : Nat) : Rat) * 2 ^ j * 2 := by
      have e1 : i = (i - j - more - 1) + more + j + 1 := by omega
      conv => lhs; rw [e1]
      rw [z2_add, z2_add, z2_add, z2_nat]
      have : (2 : Rat) ^ (1 : Int) = 2 := by decide
      rw [this]
    rw [this, hD]; push_cast; grind
  have hz : 0 < (2 : Rat) ^ (i - j - more - 1) * (n * 2 ^ j) := by
    refine Rat.mul_pos (z2_pos _) (Rat.mul_pos ?_ (z2_pos _))
    exact_mod_cast Nat.pos_of_ne_zero hn
  have hn0 : (0 : Rat) < n := by exact_mod_cast Nat.pos_of_ne_zero hn
  refine ⟨_, _, 2 ^ (i - j - more - 1) * (n * 2 ^ j), hq, ?_, Rat.le_of_lt hz, ?_, ?_, ?_⟩
  · intro h0
    have : w = 0 ∧ b = 0 := by omega
    have : D = 0 := by rw [← hdm, this.1]; omega
    have h3 : 0 < m * 2 ^ more := Nat.mul_pos (Nat.pos_of_ne_zero hm) (Nat.two_pow_pos _)
    omega
  · have c : ((2 ^ digits * n : Nat) : Rat) ≤ ((2 * D : Nat) : Rat) := by exact_mod_cast hw
    have := Rat.mul_le_mul_of_nonneg_right c (Rat.le_of_lt hz)
    refine Rat.le_of_mul_le_mul_right (c := (n : Rat)) ?_ hn0
    rw [hM]
    push_cast at this ⊢
    grind
  · refine Rat.le_of_mul_le_mul_right (c := (n : Rat)) ?_ hn0
    have c : ((n * (2 * w + b) : Nat) : Rat) ≤ ((2 * D + n : Nat) : Rat) := by
      have : n * (2 * w + b) ≤ 2 * D + n := by
        rw [Nat.mul_add, ← hdm]
        have : n * (2 * w) = 2 * (n * w) := by rw [Nat.mul_left_comm]
        rcases hb' with ⟨_, rfl⟩ | ⟨_, rfl⟩ <;> omega
      exact_mod_cast this
    have := Rat.mul_le_mul_of_nonneg_right c (Rat.le_of_lt hz)
    rw [Rat.add_mul, hM]
    push_cast at this ⊢
    grind
  · refine Rat.le_of_mul_le_mul_right (c := (n : Rat)) ?_ hn0
    have c : ((2 * D : Nat) : Rat) ≤ ((n * (2 * w + b) + n : Nat) : Rat) := by
      have : 2 * D ≤ n * (2 * w + b) + n := by
        rw [Nat.mul_add, ← hdm]
        have : n * (2 * w) = 2 * (n * w) := by rw [Nat.mul_left_comm]
        rcases hb' with ⟨_, rfl⟩ | ⟨_, rfl⟩ <;> omega
      exact_mod_cast this
    have := Rat.mul_le_mul_of_nonneg_right c (Rat.le_of_lt hz)
    rw [hM]
    push_cast at this ⊢
    grind
end Go.Proofs.Ythdkdcaekfcmoaa.Flo
