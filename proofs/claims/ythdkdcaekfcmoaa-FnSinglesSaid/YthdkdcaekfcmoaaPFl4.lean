/- Plain laws of what comes back from singles: a word times a scale, a half more, and its floor; NaNs ask the tape. -/
import Derived.Test.YthdkdcaekfcmoaaPFl3
namespace Go.Proofs.Ythdkdcaekfcmoaa.Flo
open Ieee
set_option linter.unusedVariables false
set_option linter.unusedSimpArgs false
def halfB : Nat := 4602678819172646912
def loB : Nat := 14010698440749613056
def hiB : Nat := 4787326403894837248
theorem z2_down (a n : Nat) (m : Nat) (h : m = a * 2 ^ n) : (m : Rat) * 2 ^ (-(n : Int)) = a := by
  have := z2_neg n
  subst h
  push_cast
  rw [Rat.mul_assoc, Rat.mul_comm _ ((2 : Rat) ^ (-(n : Int)))]
  have e : (2 : Rat) ^ (-(n : Int)) * (2 : Rat) ^ n = 1 := by
    have h2 := z2_neg n
    push_cast at h2
    exact h2
  rw [e, Rat.mul_one]
theorem fin_half : Fin double halfB (1 / 2) := by
  refine ⟨false, 4503599627370496, -53, by decide, ?_, by decide, by decide⟩
  unfold svN
  have h := z2_down 1 52 4503599627370496 (by decide)
  have e : (2 : Rat) ^ (-53 : Int) = 2 ^ (-((52 : Nat) : Int)) * (1 / 2) := by
    have e1 : (-53 : Int) = -((52 : Nat) : Int) + (-1) := by decide
    rw [e1, z2_add]
    congr 1
    have := z2_neg 1
    have e3 : (2 : Rat) ^ (-((1 : Nat) : Int)) = 2 ^ (-1 : Int) := rfl
    rw [e3] at this
    push_cast at this
    grind
  simp only [Bool.false_eq_true, if_false]
  rw [e, ← Rat.mul_assoc, h]
  simp
theorem fin_hi : Fin double hiB 1099511627776 := by
  refine ⟨false, 4503599627370496, -12, by decide, ?_, by decide, by decide⟩
  unfold svN
  have h := z2_down 1099511627776 12 4503599627370496 (by decide)
  simp only [Bool.false_eq_true, if_false]
  exact h
theorem fin_lo : Fin double loB (-1099511627776) := by
  refine ⟨true, 4503599627370496, -12, by decide, ?_, by decide, by decide⟩
  unfold svN
  have h := z2_down 1099511627776 12 4503599627370496 (by decide)
  simp only [if_true]
  have h' : ((4503599627370496 : Nat) : Rat) * 2 ^ (-12 : Int) = ((1099511627776 : Nat) : Rat) := h
  rw [h']; rfl
/-- A word that is a number. -/
theorem fin_read {f : Format} {b : Nat} {s : Bool} {m : Nat} {e : Int} (h : f.read b = .number s m e) : Fin f b (svN s m e) := by
  refine ⟨s, m, e, h, rfl, ?_⟩
  have hb : 0 < f.binade := Nat.two_pow_pos _
  unfold Format.read at h
  dsimp only at h
  split at h
  · injection h with h1 h2 h3; omega
  · split at h
    · injection h with h1 h2 h3
      have := Nat.mod_lt (b % f.signWeight) hb
      omega
    · split at h <;> cases h
theorem e_single {b : Nat} {s : Bool} {m : Nat} {e : Int} (h : single.read b = .number s m e) : e ≤ 104 := by
  unfold Format.read at h
  dsimp only at h
  have e1 : single.leastPlace = -149 := by decide
  have e2 : single.infRung = 255 * single.binade := by decide
  have hb : 0 < single.binade := Nat.two_pow_pos _
  split at h
  · injection h with h1 h2 h3; omega
  · split at h
    · rename_i hlt
      injection h with h1 h2 h3
      rw [e2] at hlt
      have := (Nat.div_lt_iff_lt_mul hb).2 hlt
      omega
    · split at h <;> cases h
/-- A single in double precision. -/
theorem up_num {b : Nat} {s : Bool} {m : Nat} {e : Int} (h : single.read b = .number s m e) : ∃ u, floatToFloatBits .f32 b .f64 = some u ∧ Fin double u (svN s m e) ∧ -(2 : Rat) ^ (128 : Int) ≤ svN s m e ∧ svN s m e ≤ (2 : Rat) ^ (128 : Int) := by
  obtain ⟨_, _, _, h', _, hl, hm⟩ := fin_read h
  rw [h] at h'; injection h' with i1 i2 i3; subst i1 i2 i3
  have he := e_single h
  have hm2 : 2 * single.binade = 16777216 := by decide
  rw [hm2] at hm
  have e1 : single.leastPlace = -149 := by decide
  rw [e1] at hl
  have hf : Fin double (double.write (.number s m e)) (svN s m e) := by
    refine fin_exact exp64 ?_ ?_ ?_
    · rw [top64]
      by_cases h0 : m = 0
      · rw [h0]
        have : Nat.log2 0 = 0 := by decide
        rw [this]; omega
      · have := (Nat.log2_lt h0).2 (show m < 2 ^ 24 by omega)
        omega
    · have : 2 * double.binade = 9007199254740992 := by decide
      omega
    · have : double.leastPlace = -1074 := by decide
      omega
  refine ⟨_, ?_, hf, ?_⟩
  · have r1 : FloatKind.f32.decode b = .number s m e := h
    unfold floatToFloatBits
    rw [if_neg (by decide), r1]
    have := fin_inf hf
    show (if ((double.read (double.write (.number s m e))).isInfinity) = true then none else some _) = _
    rw [this]; rfl
  · have hB : (m : Rat) * 2 ^ e ≤ 2 ^ (128 : Int) := by
      have h1 : (m : Rat) ≤ 2 ^ ((24 : Nat) : Int) := nat_le_z2 (by omega)
      have h2 : (2 : Rat) ^ e ≤ 2 ^ (104 : Int) := z2_le he
      have h3 : (2 : Rat) ^ (128 : Int) = 2 ^ ((24 : Nat) : Int) * 2 ^ (104 : Int) := by rw [← z2_add]; rfl
      rw [h3]
      have h4 := Rat.mul_le_mul_of_nonneg_right h1 (Rat.le_of_lt (z2_pos e))
      have h5 := Rat.mul_le_mul_of_nonneg_left h2 (Rat.le_of_lt (z2_pos ((24 : Nat) : Int)))
      grind
    exact abs_sv' hB
/-- The number that comes of a single that is one. -/
theorem fr_num {b : Nat} {sg : Bool} {m : Nat} {e s : Int} (h : single.read b = .number sg m e) (hs : 1 ≤ s ∧ s ≤ 1099511627776) :
    ∃ u p v x, floatToFloatBits .f32 b .f64 = some u ∧ floatBits .mul .f64 u (floatOfInt .f64 s) = some p ∧ floatBits .add .f64 p halfB = some v ∧ Fin double v x ∧
      (∀ M : Rat, M ≤ 1099511627776 → -M ≤ svN sg m e * s → svN sg m e * s ≤ M → x ≤ svN sg m e * s + 1 / 2 + (M * (1 / 1000000000) + 1 / 1000) ∧ svN sg m e * s + 1 / 2 ≤ x + (M * (1 / 1000000000) + 1 / 1000)) := by
  obtain ⟨u, h1, fu, u1, u2⟩ := up_num h
  have fs := fin_int (n := s) (by omega)
  have e40 : ((1099511627776 : Int) : Rat) = 1099511627776 := rfl
  have hS1 : (1 : Rat) ≤ s := by have := Rat.intCast_le_intCast.2 hs.1; exact this
  have hS2 : (s : Rat) ≤ 1099511627776 := by rw [← e40]; exact Rat.intCast_le_intCast.2 hs.2
  clear e40
  obtain ⟨S, hSe⟩ : ∃ S : Rat, S = s := ⟨_, rfl⟩
  obtain ⟨X, hXe⟩ : ∃ X : Rat, X = svN sg m e := ⟨_, rfl⟩
  rw [← hSe] at hS1 hS2 fs ⊢
  rw [← hXe] at fu u1 u2 ⊢
  have hS0 : 0 ≤ S := by grind
  have h40 : (1099511627776 : Rat) = 2 ^ (40 : Int) := by
    have := z2_nat 40
    have e : ((2 ^ 40 : Nat) : Rat) = 1099511627776 := rfl
    rw [e] at this
    exact this.symm
  have hz := z2_pos 128
  have hbig : (2 : Rat) ^ (128 : Int) * S ≤ 2 ^ (168 : Int) := by
    have h3 : (2 : Rat) ^ (168 : Int) = 2 ^ (128 : Int) * 2 ^ (40 : Int) := by rw [← z2_add]; rfl
    rw [h3, ← h40]
    exact Rat.mul_le_mul_of_nonneg_left hS2 (Rat.le_of_lt hz)
  have a1 := mul_both u1 hS0
  have a2 := mul_both u2 hS0
  have c1 : -(2 : Rat) ^ (168 : Int) ≤ X * S := by grind
  have c2 : X * S ≤ (2 : Rat) ^ (168 : Int) := by grind
  have ht168 : (2 : Rat) ^ (168 : Int) ≤ 2 ^ top double := by rw [top64]; exact z2_le (by decide)
  obtain ⟨p, y, hp, fp, p1, p2⟩ := fin_mul exp64 fu fs c1 c2 ht168
  have hu := uu64
  have hu0 := uu_pos double
  obtain ⟨k, k1, _, k0, hk⟩ := tt_le
  have t0 := tt_pos double
  have h1z : (1 : Rat) ≤ 2 ^ (168 : Int) := z2_one 168
  have hBu : (2 : Rat) ^ (168 : Int) * uu double ≤ 2 ^ (168 : Int) := by
    have : uu double ≤ 1 := by grind
    have := Rat.mul_le_mul_of_nonneg_left this (Rat.le_of_lt (z2_pos 168))
    grind
  have h170 : (2 : Rat) ^ (171 : Int) = 8 * 2 ^ (168 : Int) := by
    have : (171 : Int) = 3 + 168 := by decide
    rw [this, z2_add]
    have : (2 : Rat) ^ (3 : Int) = 8 := by decide
    rw [this]
  have d1 : -(2 : Rat) ^ (171 : Int) ≤ y + 1 / 2 := by grind
  have d2 : y + 1 / 2 ≤ (2 : Rat) ^ (171 : Int) := by grind
  have ht171 : (2 : Rat) ^ (171 : Int) ≤ 2 ^ top double := by rw [top64]; exact z2_le (by decide)
  obtain ⟨v, x, hv, fv, v1, v2⟩ := fin_add exp64 fp fin_half d1 d2 ht171
  refine ⟨u, p, v, x, h1, hp, hv, fv, fun M hM m1 m2 => ?_⟩
  have hMt : M ≤ 2 ^ top double := by
    have : (2 : Rat) ^ (40 : Int) ≤ 2 ^ top double := by rw [top64]; exact z2_le (by decide)
    rw [← h40] at this; grind
  obtain ⟨p', y', hp', fp', p1', p2'⟩ := fin_mul exp64 fu fs m1 m2 hMt
  rw [hp] at hp'; injection hp' with hp'; subst hp'
  have := fin_one fp fp'; subst this
  have eM : M * uu double * 9007199254740992 = M := by rw [Rat.mul_assoc, hu, Rat.mul_one]
  have hM0 : 0 ≤ M := by grind
  have hMu : M * uu double ≤ M * (1 / 1000000000000) := by grind
  have n1 : -(M + 1) ≤ y + 1 / 2 := by grind
  have n2 : y + 1 / 2 ≤ M + 1 := by grind
  have hM2 : M + 1 ≤ 2 ^ top double := by
    have : (2 : Rat) ^ (41 : Int) ≤ 2 ^ top double := by rw [top64]; exact z2_le (by decide)
    have e41 : (2 : Rat) ^ (41 : Int) = 2 * 2 ^ (40 : Int) := by
      have : (41 : Int) = 1 + 40 := by decide
      rw [this, z2_add]
      have : (2 : Rat) ^ (1 : Int) = 2 := by decide
      rw [this]
    rw [e41, ← h40] at this; grind
  obtain ⟨v', x', hv', fv', v1', v2'⟩ := fin_add exp64 fp fin_half n1 n2 hM2
  rw [hv] at hv'; injection hv' with hv'; subst hv'
  have := fin_one fv fv'; subst this
  have e2 : (M + 1) * uu double = M * uu double + uu double := by grind
  constructor <;> grind
theorem inf_read (neg : Bool) : double.read (double.word neg double.infRung) = .infinity neg := by cases neg <;> decide
theorem fr_inf {b : Nat} {sg : Bool} {s : Int} (h : single.read b = .infinity sg) (hs : 1 ≤ s ∧ s ≤ 1099511627776) :
    ∃ u p v, floatToFloatBits .f32 b .f64 = some u ∧ floatBits .mul .f64 u (floatOfInt .f64 s) = some p ∧ floatBits .add .f64 p halfB = some v ∧ double.read v = .infinity sg := by
  have fs := fin_int (n := s) (by omega)
  have hS1 : (1 : Rat) ≤ s := by have := Rat.intCast_le_intCast.2 hs.1; exact this
  obtain ⟨t, n, j, hr, hv, _, _⟩ := fs
  have ht : t = false := by
    cases t
    · rfl
    · exfalso
      unfold svN at hv
      have := mag_nonneg n j
      simp only [if_true] at hv
      grind
  subst ht
  have hn : n ≠ 0 := by
    rintro rfl
    simp [svN] at hv
    grind
  obtain ⟨_, m2, j2, hr2, _⟩ := fin_half
  refine ⟨double.word sg double.infRung, double.word sg double.infRung, double.word sg double.infRung, ?_, ?_, ?_, inf_read sg⟩
  · have r1 : FloatKind.f32.decode b = .infinity sg := h
    unfold floatToFloatBits
    rw [if_neg (by decide), r1]; rfl
  · show double.mul _ _ = _
    unfold Format.mul
    rw [inf_read, hr]
    unfold Datum.product
    dsimp only
    rw [if_neg hn]
    simp [Format.write]
  · show double.add _ _ = _
    unfold Format.add
    rw [inf_read, hr2]
    rfl
theorem fr_nan {b : Nat} {sg : Bool} {q : Nat} (h : single.read b = .nan sg q) : floatToFloatBits .f32 b .f64 = none := by
  have r1 : FloatKind.f32.decode b = .nan sg q := h
  unfold floatToFloatBits
  rw [if_neg (by decide), r1]
/-! ### What comes back -/
def fromV (b : Nat) (s : Int) : Option Nat := (floatToFloatBits .f32 b .f64).bind fun u => (floatBits .mul .f64 u (floatOfInt .f64 s)).bind fun p => floatBits .add .f64 p halfB
def geB (v : Nat) : Bool := FloatKind.f64.format.order v loB == some .gt || FloatKind.f64.format.order v loB == some .eq
def leB (v : Nat) : Bool := FloatKind.f64.format.order v hiB == some .lt || FloatKind.f64.format.order v hiB == some .eq
def frI (v : Nat) : Int := (floatToIntVal .f64 v .i64).getD 0
def gtB (v : Nat) : Bool := FloatKind.f64.format.order (floatOfInt .f64 (frI v)) v == some .gt
def frF (v : Nat) : Int := if gtB v then frI v - 1 else frI v
def frOk (b : Nat) (s : Int) : Bool := match fromV b s with
  | some v => geB v && leB v
  | none => false
def frN (b : Nat) (s : Int) : Int := frF ((fromV b s).getD 0)
theorem ge_fin {v : Nat} {x : Rat} (h : Fin double v x) : geB v = decide (-1099511627776 ≤ x) := by
  obtain ⟨o, h1, h2, h3, h4⟩ := fin_order h fin_lo
  unfold geB
  have h1' : FloatKind.f64.format.order v loB = some o := h1
  rw [h1', Bool.eq_iff_iff]
  simp only [Bool.or_eq_true, beq_iff_eq, Option.some.injEq, decide_eq_true_eq, h3, h4]
  constructor
  · rintro (q | q) <;> grind
  · intro q
    by_cases e : x = -1099511627776
    · exact .inr e
    · left; grind
theorem le_fin {v : Nat} {x : Rat} (h : Fin double v x) : leB v = decide (x ≤ 1099511627776) := by
  obtain ⟨o, h1, h2, h3, h4⟩ := fin_order h fin_hi
  unfold leB
  have h1' : FloatKind.f64.format.order v hiB = some o := h1
  rw [h1', Bool.eq_iff_iff]
  simp only [Bool.or_eq_true, beq_iff_eq, Option.some.injEq, decide_eq_true_eq, h2, h3]
  constructor
  · rintro (q | q) <;> grind
  · intro q
    by_cases e : x = 1099511627776
    · exact .inr e
    · left; grind
theorem inf_out {v : Nat} {sg : Bool} (h : double.read v = .infinity sg) : (geB v && leB v) = false := by
  obtain ⟨s1, m1, j1, hr1, _⟩ := fin_lo
  obtain ⟨s2, m2, j2, hr2, _⟩ := fin_hi
  have e1 : FloatKind.f64.format.order v loB = some (if sg then .lt else .gt) := by
    show double.order v loB = _
    unfold Format.order; rw [h, hr1]; rfl
  have e2 : FloatKind.f64.format.order v hiB = some (if sg then .lt else .gt) := by
    show double.order v hiB = _
    unfold Format.order; rw [h, hr2]; rfl
  unfold geB leB
  rw [e1, e2]
  cases sg <;> decide
/-- The whole part below. -/
theorem floor_fin {v : Nat} {x : Rat} (h : Fin double v x) (h1 : -1099511627776 ≤ x) (h2 : x ≤ 1099511627776) :
    floatToIntVal .f64 v .i64 = some (frI v) ∧ -1099511627776 ≤ frI v ∧ frI v ≤ 1099511627776 ∧ (frF v : Rat) ≤ x ∧ x < frF v + 1 := by
  obtain ⟨n, hn, p1, p2⟩ := fin_toInt h
  have e40 : ((1099511627776 : Int) : Rat) = 1099511627776 := rfl
  have e40n : ((-1099511627776 : Int) : Rat) = -1099511627776 := rfl
  have b1 : -1099511627776 ≤ n := by
    refine Rat.intCast_le_intCast.1 ?_
    rw [e40n]
    by_cases q : 0 ≤ x
    · have := p1 q
      have h3 : ((-1 : Int) : Rat) < (n : Rat) := by have e : ((-1 : Int) : Rat) = -1 := rfl; rw [e]; grind
      have h4 := Rat.intCast_lt_intCast.1 h3
      have h5 : ((0 : Int) : Rat) ≤ n := Rat.intCast_le_intCast.2 (by omega)
      have e0 : ((0 : Int) : Rat) = 0 := rfl
      rw [e0] at h5; grind
    · have := p2 (by grind); grind
  have b2 : n ≤ 1099511627776 := by
    refine Rat.intCast_le_intCast.1 ?_
    rw [e40]
    by_cases q : 0 ≤ x
    · have := p1 q; grind
    · have h6 := p2 (by grind)
      have h3 : (n : Rat) < ((1 : Int) : Rat) := by have e : ((1 : Int) : Rat) = 1 := rfl; rw [e]; grind
      have h4 := Rat.intCast_lt_intCast.1 h3
      have h5 : (n : Rat) ≤ ((0 : Int) : Rat) := Rat.intCast_le_intCast.2 (by omega)
      have e0 : ((0 : Int) : Rat) = 0 := rfl
      rw [e0] at h5; grind
  have hI : floatToIntVal .f64 v .i64 = some n := by
    unfold floatToIntVal
    have hn' : (FloatKind.f64.decode v).toInt .zero = some n := hn
    rw [hn']
    have m1 : IntKind.i64.min = -9223372036854775808 := by decide
    have m2 : IntKind.i64.max = 9223372036854775807 := by decide
    dsimp only
    rw [m1, m2, if_pos ⟨by omega, by omega⟩]
  have hF : frI v = n := by unfold frI; rw [hI]; rfl
  rw [hF]
  refine ⟨hI, b1, b2, ?_⟩
  obtain ⟨o, o1, o2, o3, o4⟩ := fin_order (fin_int (n := n) (by omega)) h
  have hg : gtB v = decide (x < n) := by
    unfold gtB
    rw [hF]
    have o1' : FloatKind.f64.format.order (floatOfInt .f64 n) v = some o := o1
    rw [o1', Bool.eq_iff_iff]
    simp only [beq_iff_eq, Option.some.injEq, decide_eq_true_eq, o4]
  unfold frF
  rw [hg, hF]
  have e1 : ((n - 1 : Int) : Rat) = n - 1 := by push_cast; rfl
  by_cases q : x < n
  · rw [decide_eq_true q, if_pos rfl, e1]
    have hx : x < 0 := by
      by_cases q2 : 0 ≤ x
      · have := p1 q2; grind
      · grind
    have := p2 hx
    constructor <;> grind
  · rw [decide_eq_false q, if_neg (by decide)]
    by_cases q2 : 0 ≤ x
    · have := p1 q2; constructor <;> grind
    · have := p2 (by grind); constructor <;> grind
/-- What a word gives: nothing, or a value whose floor is there. -/
theorem fr_cases (b : Nat) {s : Int} (hs : 1 ≤ s ∧ s ≤ 1099511627776) :
    (∃ sg q, single.read b = .nan sg q) ∨ ∃ u p v, floatToFloatBits .f32 b .f64 = some u ∧ floatBits .mul .f64 u (floatOfInt .f64 s) = some p ∧ floatBits .add .f64 p halfB = some v ∧ fromV b s = some v ∧
      (geB v = true → leB v = true → floatToIntVal .f64 v .i64 = some (frI v) ∧ -1099511627776 ≤ frI v ∧ frI v ≤ 1099511627776) := by
  rcases h : single.read b with ⟨sg, m, e⟩ | ⟨sg⟩ | ⟨sg, q⟩
  · right
    obtain ⟨u, p, v, x, h1, h2, h3, h4, _⟩ := fr_num h hs
    refine ⟨u, p, v, h1, h2, h3, ?_, fun g1 g2 => ?_⟩
    · unfold fromV; rw [h1, Option.bind_some, h2, Option.bind_some, h3]
    · rw [ge_fin h4] at g1; rw [le_fin h4] at g2
      have := floor_fin h4 (of_decide_eq_true g1) (of_decide_eq_true g2)
      exact ⟨this.1, this.2.1, this.2.2.1⟩
  · right
    obtain ⟨u, p, v, h1, h2, h3, h4⟩ := fr_inf h hs
    refine ⟨u, p, v, h1, h2, h3, ?_, fun g1 g2 => ?_⟩
    · unfold fromV; rw [h1, Option.bind_some, h2, Option.bind_some, h3]
    · have := inf_out h4; rw [g1, g2] at this; cases this
  · exact .inl ⟨sg, q, rfl⟩
theorem fr_nanNo {b : Nat} {sg : Bool} {q : Nat} (h : single.read b = .nan sg q) (s : Int) : frOk b s = false := by
  unfold frOk fromV; rw [fr_nan h]; rfl
/-- A single that is near comes back as the whole number. -/
theorem fr_back {b : Nat} {s n : Int} {z : Rat} (hs : 1 ≤ s ∧ s ≤ 1099511627776) (hz : Fin single b z) (hn : -1000000 ≤ n ∧ n ≤ 1000000) (h1 : z * s ≤ n + 1 / 7) (h2 : (n : Rat) ≤ z * s + 1 / 7) : frOk b s = true ∧ frN b s = n := by
  obtain ⟨sg, m, e, hr, hv, _⟩ := hz
  obtain ⟨u, p, v, x, g1, g2, g3, g4, g5⟩ := fr_num hr hs
  rw [hv] at g5
  have e6 : ((1000000 : Int) : Rat) = 1000000 := rfl
  have e6n : ((-1000000 : Int) : Rat) = -1000000 := rfl
  have n1 : (-1000000 : Rat) ≤ n := by rw [← e6n]; exact Rat.intCast_le_intCast.2 hn.1
  have n2 : (n : Rat) ≤ 1000000 := by rw [← e6]; exact Rat.intCast_le_intCast.2 hn.2
  obtain ⟨k1, k2⟩ := g5 1000001 (by grind) (by grind) (by grind)
  have hV : fromV b s = some v := by unfold fromV; rw [g1, Option.bind_some, g2, Option.bind_some, g3]
  have x1 : -1099511627776 ≤ x := by grind
  have x2 : x ≤ 1099511627776 := by grind
  obtain ⟨_, _, _, f1, f2⟩ := floor_fin g4 x1 x2
  refine ⟨?_, ?_⟩
  · unfold frOk; rw [hV]
    show (geB v && leB v) = true
    rw [ge_fin g4, le_fin g4, decide_eq_true x1, decide_eq_true x2]; rfl
  · unfold frN; rw [hV]
    show frF v = n
    have a1 : (n : Rat) < ((frF v + 1 : Int) : Rat) := by push_cast; grind
    have a2 : ((frF v : Int) : Rat) < ((n + 1 : Int) : Rat) := by push_cast; grind
    have := Rat.intCast_lt_intCast.1 a1
    have := Rat.intCast_lt_intCast.1 a2
    omega
end Go.Proofs.Ythdkdcaekfcmoaa.Flo
