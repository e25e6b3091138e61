/- Contracts of the two FactorsOf. -/
import Derived.Test.YthpjpnilmpihaaaChr
import Derived.Test.YthpjpnilmpihaaaStep
import Derived.IntWalk
namespace Go.Proofs.Ythpjpnilmpihaaa
open Go.RowKit
set_option linter.unusedVariables false
set_option linter.unusedSimpArgs false
def facs (p q : Int) : LL :=
  if chrOk p q && decide (q ≠ 1) then
    ⟨christ (facN p.toNat q.toNat * p.toNat / q.toNat) (facN p.toNat q.toNat), christ (p.toNat - facN p.toNat q.toNat * p.toNat / q.toNat) (q.toNat - facN p.toNat q.toNat), true⟩
  else ⟨[], [], false⟩
theorem facs_no {p q : Int} (h : chrOk p q = false) : facs p q = ⟨[], [], false⟩ := by simp [facs, h]
theorem facs_one {p : Int} : facs p 1 = ⟨[], [], false⟩ := by simp [facs]
theorem facs_yes {p q : Nat} (h : chrOk p q = true) (hq : q ≠ 1) : facs p q = ⟨christ (facN p q * p / q) (facN p q), christ (p - facN p q * p / q) (q - facN p q), true⟩ := by
  have : decide ((q : Int) ≠ 1) = true := by simp; omega
  simp only [facs, h, this, Bool.and_self, if_true, Int.toNat_natCast]
theorem chrOk_of {p q : Nat} (h1 : 1 ≤ q) (h2 : q ≤ 500) (h3 : p ≤ q) (hg : Nat.gcd p q = 1) : chrOk p q = true := by
  have i1 : inB (q : Int) 1 500 = true := inB_true (by omega) (by omega)
  have i2 : inB (p : Int) 0 q = true := inB_true (by omega) (by omega)
  simp [chrOk, shareB, i1, i2, hg]
theorem chrOk_parts {p q : Nat} (h : chrOk p q = true) : 1 ≤ q ∧ q ≤ 500 ∧ p ≤ q ∧ Nat.gcd p q = 1 := by
  simp only [chrOk, Bool.and_eq_true, decide_eq_true_eq, Int.toNat_natCast] at h
  have := share_parts h.1
  exact ⟨by omega, by omega, by omega, h.2⟩
theorem chr_lt {p q : Nat} (h : chrOk p q = true) (hq : q ≠ 1) : 1 ≤ p ∧ p < q := by
  obtain ⟨a, b, c, d⟩ := chrOk_parts h
  refine ⟨?_, ?_⟩
  · rcases Nat.eq_zero_or_pos p with e | e
    · subst e; simp at d; omega
    · exact e
  · rcases Nat.lt_or_ge p q with e | e
    · exact e
    · obtain rfl : p = q := by omega
      simp at d; omega
theorem facs_len (p q : Int) : (facs p q).c.length ≤ 500 ∧ (facs p q).n.length ≤ 500 := by
  unfold facs
  split
  · rename_i h
    simp only [chrOk, Bool.and_eq_true] at h
    have hs := share_parts h.1.1
    simp only [christ_length]
    have : facN p.toNat q.toNat ≤ q.toNat := by
      by_cases hz : facN p.toNat q.toNat = 0
      · omega
      · have := (fac_some (q.toNat - 1) 1 hz).2.1
        unfold facN; omega
    omega
  · simp
/-- What the reference finds at b: the number a, and its test. -/
theorem fac_a {p q b : Nat} (hq : 1 < q) (hp : 1 ≤ p) (hb : 1 ≤ b) : ∃ a : Nat, ((b : Int) * p - 1).tdiv q = a ∧ a ≤ b * p ∧ q * a ≤ b * p ∧ (facB p q b = true → b * p = q * a + 1 ∧ a = b * p / q) ∧ (facB p q b = false → b * p ≠ q * a + 1) := by
  have hbp : 1 ≤ b * p := Nat.mul_pos hb hp
  have e0 : (b : Int) * p = ((b * p : Nat) : Int) := by rw [Int.natCast_mul]
  have hm : facB p q b = decide (b * p % q = 1) := rfl
  rw [e0, hm]
  generalize b * p = n at *
  refine ⟨(n - 1) / q, ?_, ?_, ?_, fun h => ?_, fun h => ?_⟩
  · have : ((n : Int) - 1) = ((n - 1 : Nat) : Int) := by omega
    rw [this, Int.tdiv_eq_ediv_of_nonneg (by omega)]; rfl
  · exact Nat.le_trans (Nat.div_le_self _ _) (by omega)
  · have := Nat.div_mul_le_self (n - 1) q
    rw [Nat.mul_comm]; omega
  · have h1 : n % q = 1 := by simpa using h
    have d2 := Nat.div_add_mod n q
    have e : n - 1 = q * (n / q) := by omega
    have : (n - 1) / q = n / q := by rw [e, Nat.mul_div_cancel_left _ (by omega)]
    rw [this]; exact ⟨by omega, rfl⟩
  · intro e
    have : n % q = 1 := by rw [e, Nat.mul_add_mod, Nat.mod_eq_of_lt hq]
    simp [this] at h
/-- The program's test at a and b. -/
theorem fac_at {p q b a : Nat} (hq : 1 < q) (ha : a ≤ p) (hb : b ≤ q) : ((p - a : Nat) : Int) * b - (a : Int) * (q - b : Nat) = ((b * p : Nat) : Int) - (q * a : Nat) := by
  have x1 : ((p - a : Nat) : Int) = (p : Int) - a := by omega
  have x2 : ((q - b : Nat) : Int) = (q : Int) - b := by omega
  rw [x1, x2, Int.sub_mul, Int.mul_sub, Int.mul_comm (p : Int) b, Int.natCast_mul, Int.natCast_mul, Int.mul_comm (a : Int) q, Int.mul_comm (a : Int) b]
  omega
theorem fac_no {p q b a : Nat} (hq : 1 < q) (h : facB p q b = false) : b * p ≠ q * a + 1 := fun e => by
  have : b * p % q = 1 := by rw [e, Nat.mul_add_mod, Nat.mod_eq_of_lt hq]
  simp [facB, this] at h
theorem fac_below {p q b a : Nat} (hq : 1 < q) (h : facB p q b = true) (ha : a < b * p / q) : b * p ≠ q * a + 1 := fun e => by
  have : b * p / q = a := by rw [e, Nat.mul_add_div (by omega), Nat.div_eq_of_lt hq]; rfl
  omega
theorem pair_empty (w : World) : Own w w.heap.size none 0 [] ∧ Own w w.heap.size none 0 [] ∧ Apart none none := ⟨own_nil _ _, own_nil _ _, fun a b h => by simp [row] at h⟩
set_option maxHeartbeats 2000000 in
theorem specFactors_any (p q : Int) (w : World) : Calls Try.prog 18 #[.int .i64 p, .int .i64 q] w (RetLLB w (facs p q)) := by
  rcases Bool.eq_false_or_eq_true (chrOk p q) with hs | hs
  · have hs' : shareB p q = true := by simp only [chrOk, Bool.and_eq_true] at hs; exact hs.1
    obtain ⟨q1, q2, p1, p2⟩ := share_parts hs'
    obtain ⟨p, rfl⟩ : ∃ n : Nat, p = n := ⟨p.toNat, by omega⟩
    obtain ⟨q, rfl⟩ : ∃ n : Nat, q = n := ⟨q.toNat, by omega⟩
    by_cases hq1 : q = 1
    · subst hq1
      have hcall := fun W => specChrist_any p 1 W
      rw [show chr (p : Int) 1 = _ from chr_yes (q := 1) hs] at hcall
      have Hc := Lib.hid hcall
      rw [show facs (p : Int) ((1 : Nat) : Int) = ⟨[], [], false⟩ from facs_one]
      clear hcall hs hs'
      go_enter Try.func18, Try.ntmps18
      go_wp2_with fail
      refine (Hc.out _).mono ?_; rintro e w' ⟨A, c, rfl, O, hb⟩
      go_wp2_with fail
      go_ret3
      obtain ⟨e1, e2, e3⟩ := pair_empty w'
      exact ⟨none, 0, none, 0, rfl, own_nil _ _, own_nil _ _, e3, hb⟩
    · obtain ⟨hp1, hpq⟩ := chr_lt hs hq1
      have hg := (chrOk_parts hs).2.2.2
      have hfn := fac_is hg (show 1 < q by omega)
      rw [facs_yes hs hq1]
      have hcall := fun W => specChrist_any p q W
      rw [chr_yes hs] at hcall
      have Hc := Lib.hid hcall
      have t0 : ((q : Int) == 1) = false := beq_eq_false_iff_ne.2 (by omega)
      clear hcall hs hs'
      go_enter Try.func18, Try.ntmps18
      go_wp2_with fail
      refine (Hc.out _).mono ?_; rintro e w1 ⟨A, c, rfl, O, hb⟩
      have HB := Lib.hid hb
      clear O hb Hc
      go_wp2_with fail
      go_loop [9] (fun i => ∃ b : Nat, 1 ≤ b ∧ b ≤ q ∧ i = .int .i64 b ∧ Hid (facFrom p q (q - b) b = facN p q)) (fun i => q - (intOf i).toNat)
      case atStart => exact ⟨1, by omega, by omega, rfl, rfl⟩
      case round =>
        obtain ⟨b, hb1, hbq, rfl, hf⟩ := hrel
        by_cases hlt : b < q
        · obtain ⟨a, ea, la1, la2, h1, h2⟩ := fac_a (p := p) (q := q) (b := b) (by omega) hp1 hb1
          have hbp : b * p ≤ 500 * 500 := Nat.mul_le_mul (by omega) (by omega)
          have hbp0 : 1 ≤ b * p := Nat.mul_pos hb1 hp1
          have ec : (a : Int) * q = ((q * a : Nat) : Int) := by rw [Int.natCast_mul, Int.mul_comm]
          have ed : (b : Int) * p = ((b * p : Nat) : Int) := by rw [Int.natCast_mul]
          rw [ed] at ea
          obtain ⟨n, hn⟩ : ∃ n, n = b * p := ⟨_, rfl⟩
          obtain ⟨m, hm⟩ : ∃ m, m = q * a := ⟨_, rfl⟩
          rw [← hn] at ea la1 la2 h1 h2 hbp hbp0 ed
          rw [← hm] at la2 h1 h2 ec
          have hz : (q : Int) ≠ 0 := by omega
          have w1' : IntKind.i64.wrap (n : Int) = n := Go.IntWalk.i64_in _ (by omega)
          have w2' : IntKind.i64.wrap ((n : Int) - 1) = (n : Int) - 1 := Go.IntWalk.i64_in _ (by omega)
          have w3' : IntKind.i64.wrap (a : Int) = a := Go.IntWalk.i64_in _ (by omega)
          have w4' : IntKind.i64.wrap (m : Int) = m := Go.IntWalk.i64_in _ (by omega)
          have w5' : IntKind.i64.wrap ((n : Int) - m) = (n : Int) - m := Go.IntWalk.i64_in _ (by omega)
          rcases Bool.eq_false_or_eq_true (facB p q b) with he | he
          · obtain ⟨f1, f2⟩ := h1 he
            obtain ⟨g1, g2, g3, g4, g5⟩ := fac_parts he hpq hlt hb1 (by omega) hp1
            have hN : facN p q = b := by rw [← hf.out, fac_hit hb1 hlt he]
            rw [hN]
            rw [hn] at f2
            rw [← f2] at g1 g2 g3 g4 g5 ⊢
            have t1 : ((n : Int) - m == 1) = true := by simp; omega
            have i1 : inB (a : Int) 0 b = true := inB_true (by omega) (by omega)
            obtain ⟨d, hd⟩ : ∃ d, d = q - b := ⟨_, rfl⟩
            obtain ⟨c', hc'⟩ : ∃ c', c' = p - a := ⟨_, rfl⟩
            rw [← hd, ← hc']
            rw [← hd, ← hc'] at g5
            have s1 : (p : Int) - a = c' := by omega
            have s2 : (q : Int) - b = d := by omega
            have hd1 : 1 ≤ d := by omega
            clear h1 h2 he hN hf f1 f2 g1 g4 hn hm la2 hfn hg hd hc'
            go_wp2_with fail
            refine (l1In_any _ _ _ _).mono ?_; rintro e w' ⟨rfl, rfl⟩
            go_wp2_with fail
            refine (l4Word_yes a b 0 b _ (by omega) (by omega) (by omega) (by omega) (by omega) (by omega) (by omega)).mono ?_; rintro e w2 ⟨A2, c2, rfl, O2, hb2⟩
            go_wp2_with fail
            refine (l4Word_yes c' d 0 d _ (by omega) (by omega) (by omega) (by omega) (by omega) (by omega) (by omega)).mono ?_; rintro e w3 ⟨A3, c3, rfl, O3, hb3⟩
            go_wp2_with fail
            go_ret3
            refine ⟨A2, c2, A3, c3, by simp only [christ_length]; rfl, ?_, ?_, ?_, HB.out.trans ((hb2.trans (hb3.mono hb2.size)).mono HB.out.size)⟩
            · exact own_past (own_mono O2 HB.out.size) hb3
            · exact own_mono O3 (Nat.le_trans HB.out.size hb2.size)
            · exact apart_lt (own_hi O2) (own_lo O3) (Nat.le_refl _)
          · have f1 := h2 he
            have hN : facFrom p q (q - (b + 1)) (b + 1) = facN p q := by rw [← hf.out, fac_miss hlt he]
            have HN := Lib.hid hN
            have t1 : ((n : Int) - m == 1) = false := beq_eq_false_iff_ne.2 (by omega)
            clear h1 h2 he hN hf f1 hn hm hfn hg la1 la2
            go_wp2_with fail
            go_round
            case rel => exact ⟨b + 1, by omega, by omega, by go_num, HN.out⟩
            case measure => simp [intOf]; omega
        · exfalso
          obtain rfl : b = q := by omega
          have := hf.out
          rw [show b - b = 0 by omega, facFrom] at this
          exact hfn this.symm
  · rw [facs_no hs]
    have hcall := fun W => specChrist_any p q W
    rw [chr_no hs] at hcall
    have Hc := Lib.hid hcall
    clear hcall
    go_enter Try.func18, Try.ntmps18
    go_wp2_with fail
    refine (Hc.out _).mono ?_; rintro e w' ⟨A, c, rfl, O, hb⟩
    go_wp2_with fail
    go_ret3
    obtain ⟨e1, e2, e3⟩ := pair_empty w'
    exact ⟨none, 0, none, 0, rfl, own_nil _ _, own_nil _ _, e3, hb⟩
set_option maxHeartbeats 2000000 in
theorem implFactors_any (p q : Int) (w : World) : Calls Try.prog 19 #[.int .i64 p, .int .i64 q] w (RetLLB w (facs p q)) := by
  rcases Bool.eq_false_or_eq_true (chrOk p q) with hs | hs
  · have hs' : shareB p q = true := by simp only [chrOk, Bool.and_eq_true] at hs; exact hs.1
    obtain ⟨q1, q2, p1, p2⟩ := share_parts hs'
    obtain ⟨p, rfl⟩ : ∃ n : Nat, p = n := ⟨p.toNat, by omega⟩
    obtain ⟨q, rfl⟩ : ∃ n : Nat, q = n := ⟨q.toNat, by omega⟩
    by_cases hq1 : q = 1
    · subst hq1
      have hcall := fun W => implChrist_any p 1 W
      rw [show chr (p : Int) 1 = _ from chr_yes (q := 1) hs] at hcall
      have Hc := Lib.hid hcall
      rw [show facs (p : Int) ((1 : Nat) : Int) = ⟨[], [], false⟩ from facs_one]
      clear hcall hs hs'
      go_enter Try.func19, Try.ntmps19
      go_wp2_with fail
      refine (Hc.out _).mono ?_; rintro e w' ⟨A, c, rfl, O, hb⟩
      go_wp2_with fail
      go_ret3
      obtain ⟨e1, e2, e3⟩ := pair_empty w'
      exact ⟨none, 0, none, 0, rfl, own_nil _ _, own_nil _ _, e3, hb⟩
    · obtain ⟨hp1, hpq⟩ := chr_lt hs hq1
      have hg := (chrOk_parts hs).2.2.2
      have hfn := fac_is hg (show 1 < q by omega)
      rw [facs_yes hs hq1]
      have hcall := fun W => implChrist_any p q W
      rw [chr_yes hs] at hcall
      have Hc := Lib.hid hcall
      have t0 : ((q : Int) == 1) = false := beq_eq_false_iff_ne.2 (by omega)
      clear hcall hs hs'
      go_enter Try.func19, Try.ntmps19
      go_wp2_with fail
      refine (Hc.out _).mono ?_; rintro e w1 ⟨A, c, rfl, O, hb⟩
      have HB := Lib.hid hb
      clear O hb Hc
      go_wp2_with fail
      go_loop [9] (fun i => ∃ b : Nat, 1 ≤ b ∧ b ≤ q ∧ i = .int .i64 b ∧ Hid (facFrom p q (q - b) b = facN p q)) (fun i => q - (intOf i).toNat)
      case atStart => exact ⟨1, by omega, by omega, rfl, rfl⟩
      case round =>
        obtain ⟨b, hb1, hbq, rfl, hf⟩ := hrel
        by_cases hlt : b < q
        · go_wp2_with fail
          go_loop [10] (fun i => ∃ a : Nat, i = .int .i64 a ∧ a ≤ 501 ∧ Hid (facB p q b = true → a ≤ b * p / q)) (fun i => 501 - (intOf i).toNat)
          case atStart => exact ⟨0, rfl, by omega, fun _ => Nat.zero_le _⟩
          case round =>
            obtain ⟨a, rfl, ha, hlo⟩ := hrel
            by_cases hin : a ≤ b ∧ a ≤ p
            · obtain ⟨ha1, ha2⟩ := hin
              have hat := fac_at (p := p) (q := q) (b := b) (a := a) (by omega) ha2 (by omega)
              obtain ⟨d, hd⟩ : ∃ d, d = q - b := ⟨_, rfl⟩
              obtain ⟨c', hc'⟩ : ∃ c', c' = p - a := ⟨_, rfl⟩
              rw [← hd, ← hc'] at hat
              have s1 : (p : Int) - a = c' := by omega
              have s2 : (q : Int) - b = d := by omega
              have hd1 : 1 ≤ d := by omega
              have hd2 : d ≤ 500 := by omega
              have hc2 : c' ≤ 500 := by omega
              have m1 : (c' : Int) * b = ((c' * b : Nat) : Int) := by rw [Int.natCast_mul]
              have m2 : (a : Int) * d = ((a * d : Nat) : Int) := by rw [Int.natCast_mul]
              have l1 : c' * b ≤ 500 * 500 := Nat.mul_le_mul hc2 (by omega)
              have l2 : a * d ≤ 500 * 500 := Nat.mul_le_mul (by omega) hd2
              rw [m1, m2] at hat
              obtain ⟨M, hM⟩ : ∃ M, M = c' * b := ⟨_, rfl⟩
              obtain ⟨N, hN⟩ : ∃ N, N = a * d := ⟨_, rfl⟩
              rw [← hM] at hat m1 l1
              rw [← hN] at hat m2 l2
              have w1' : IntKind.i64.wrap (M : Int) = M := Go.IntWalk.i64_in _ (by omega)
              have w2' : IntKind.i64.wrap (N : Int) = N := Go.IntWalk.i64_in _ (by omega)
              have w3' : IntKind.i64.wrap ((M : Int) - N) = (M : Int) - N := Go.IntWalk.i64_in _ (by omega)
              by_cases hit : b * p = q * a + 1
              · have he : facB p q b = true := by
                  have : b * p % q = 1 := by rw [hit, Nat.mul_add_mod, Nat.mod_eq_of_lt (by omega)]
                  simp [facB, this]
                have f2 : a = b * p / q := by rw [hit, Nat.mul_add_div (by omega), Nat.div_eq_of_lt (by omega)]; rfl
                obtain ⟨g1, g2, g3, g4, g5⟩ := fac_parts he hpq hlt hb1 (by omega) hp1
                have hNb : facN p q = b := by rw [← hf.out, fac_hit hb1 hlt he]
                have HE : Hid ((⟨christ (facN p q * p / q) (facN p q), christ (p - facN p q * p / q) (q - facN p q), true⟩ : LL) = ⟨christ a b, christ c' d, true⟩) := by
                  show _ = _
                  rw [hNb, ← f2, ← hd, ← hc']
                rw [← f2] at g1 g2 g3 g4 g5
                rw [← hd, ← hc'] at g4 g5
                have t1 : ((M : Int) - N == 1) = true := by simp; omega
                have t2 : decide ((c' : Int) ≤ d) = true := by simp; omega
                obtain ⟨y1, y2⟩ := fac_gcd g4
                have c1 := chr_yes (chrOk_of hb1 (by omega) ha1 y1)
                have c2 := chr_yes (chrOk_of hd1 hd2 g5 y2)
                have k1 := fun W => implChrist_any a b W
                have k2 := fun W => implChrist_any c' d W
                rw [c1] at k1
                rw [c2] at k2
                have K1 := Lib.hid k1
                have K2 := Lib.hid k2
                clear c1 c2 k1 k2 y1 y2 g1 g4 he f2 hNb hf hlo hit hat hM hN hd hc' hfn hg
                go_wp2_with fail
                refine (K1.out _).mono ?_; rintro e w2 ⟨A2, c2, rfl, O2, hb2⟩
                go_wp2_with fail
                refine (K2.out _).mono ?_; rintro e w3 ⟨A3, c3, rfl, O3, hb3⟩
                go_wp2_with fail
                go_ret3
                rw [HE.out]
                refine ⟨A2, c2, A3, c3, by simp only [christ_length]; rfl, ?_, ?_, ?_, HB.out.trans ((hb2.trans (hb3.mono hb2.size)).mono HB.out.size)⟩
                · exact own_past (own_mono O2 HB.out.size) hb3
                · exact own_mono O3 (Nat.le_trans HB.out.size hb2.size)
                · exact apart_lt (own_hi O2) (own_lo O3) (Nat.le_refl _)
              · have t1 : ((M : Int) - N == 1) = false := beq_eq_false_iff_ne.2 (by omega)
                have hlo2 : Hid (facB p q b = true → a + 1 ≤ b * p / q) := fun he => by
                  have h1 := hlo.out he
                  rcases Nat.lt_or_ge a (b * p / q) with h2 | h2
                  · exact h2
                  · exfalso
                    have h3 : a = b * p / q := by omega
                    have := (fac_parts he hpq hlt hb1 (by omega) hp1).1
                    rw [← h3] at this
                    exact hit this
                clear hit hat hM hN hlo hd hc'
                by_cases hcd : c' ≤ d
                · have t2 : decide ((c' : Int) ≤ d) = true := by simp; omega
                  go_wp2_with fail
                  go_round
                  case rel => exact ⟨a + 1, by go_num, by omega, hlo2.out⟩
                  case measure => simp [intOf]; omega
                · have t2 : decide ((c' : Int) ≤ d) = false := by simp; omega
                  go_wp2_with fail
                  go_round
                  case rel => exact ⟨a + 1, by go_num, by omega, hlo2.out⟩
                  case measure => simp [intOf]; omega
            · have he : facB p q b = false := by
                rcases Bool.eq_false_or_eq_true (facB p q b) with he | he
                · exfalso
                  have h1 := hlo.out he
                  obtain ⟨g1, g2, g3, g4, g5⟩ := fac_parts he hpq hlt hb1 (by omega) hp1
                  omega
                · exact he
              have hN : facFrom p q (q - (b + 1)) (b + 1) = facN p q := by rw [← hf.out, fac_miss hlt he]
              have HN := Lib.hid hN
              clear hlo he hN hf
              by_cases h1 : a ≤ b
              · have h2 : ¬ a ≤ p := fun h => hin ⟨h1, h⟩
                clear hin
                go_wp2_with fail
                go_round
                case rel => exact ⟨b + 1, by omega, by omega, by go_num, HN.out⟩
                case measure => simp [intOf]; omega
              · clear hin
                go_wp2_with fail
                go_round
                case rel => exact ⟨b + 1, by omega, by omega, by go_num, HN.out⟩
                case measure => simp [intOf]; omega
        · exfalso
          obtain rfl : b = q := by omega
          have := hf.out
          rw [show b - b = 0 by omega, facFrom] at this
          exact hfn this.symm
  · rw [facs_no hs]
    have hcall := fun W => implChrist_any p q W
    rw [chr_no hs] at hcall
    have Hc := Lib.hid hcall
    clear hcall
    go_enter Try.func19, Try.ntmps19
    go_wp2_with fail
    refine (Hc.out _).mono ?_; rintro e w' ⟨A, c, rfl, O, hb⟩
    go_wp2_with fail
    go_ret3
    obtain ⟨e1, e2, e3⟩ := pair_empty w'
    exact ⟨none, 0, none, 0, rfl, own_nil _ _, own_nil _ _, e3, hb⟩
/-- All that the law of Christoffel words asks of the factors. -/
theorem fac_all {p q : Nat} (h : chrOk p q = true) (hq : q ≠ 1) : ∃ a b c d : Nat, facs p q = ⟨christ a b, christ c d, true⟩ ∧ 1 ≤ b ∧ 1 ≤ d ∧ b + d = q ∧ a + c = p ∧ a ≤ b ∧ c ≤ d ∧ (c : Int) * b - a * d = 1 ∧ chrOk a b = true ∧ chrOk c d = true := by
  obtain ⟨h1, h2, h3, hg⟩ := chrOk_parts h
  obtain ⟨hp1, hpq⟩ := chr_lt h hq
  have hz := fac_is hg (show 1 < q by omega)
  obtain ⟨hb1, f2, f3⟩ : 1 ≤ facN p q ∧ facN p q < 1 + (q - 1) ∧ facB p q (facN p q) = true := fac_some (q - 1) 1 hz
  have hbq : facN p q < q := by omega
  obtain ⟨g1, g2, g3, g4, g5⟩ := fac_parts f3 hpq hbq hb1 (by omega) hp1
  obtain ⟨y1, y2⟩ := fac_gcd g4
  refine ⟨_, _, _, _, facs_yes h hq, hb1, by omega, by omega, by omega, g2, g5, g4, chrOk_of hb1 (by omega) g2 y1, chrOk_of (by omega) (by omega) g5 y2⟩
theorem christ_sum (p q : Nat) (h : 0 < q) : (christ p q).sum = p := mech_whole q 0 (by omega)
theorem christ_word {p q : Nat} (h1 : 1 ≤ q) (h2 : q ≤ 500) (h3 : p ≤ q) : wordOk (christ p q) = true := mech_word 0 (by omega) (by omega) (by omega) (by omega)
theorem christ_slope {p q : Nat} (h : chrOk p q = true) (hs : 1 ≤ q) : Nat.gcd (christ p q).sum.toNat (christ p q).length = 1 := by
  rw [christ_sum p q hs, christ_length]; exact (chrOk_parts h).2.2.2
end Go.Proofs.Ythpjpnilmpihaaa
