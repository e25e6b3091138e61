/- Contracts of the two GrowthOf. -/
import Derived.Test.YtfplecbacgcjgaaBase
import Derived.Test.YtfplecbacgcjgaaPGrow
namespace Go.Proofs.Ytfplecbacgcjgaa
open Go.RowKit
set_option linter.unusedVariables false
def GrowEnd (w : World) (x : Int × Bool) (e : Ending) (w' : World) : Prop := e = .returned (.tuple #[.int .i64 x.1, .bool x.2]) ∧ Below w.heap.size w w'
theorem implGrowth_yes (n : Nat) (r k size : Int) (n1 : 1 ≤ n) (n2 : n ≤ 6) (r1 : 1 ≤ r) (r2 : r ≤ 100) (k1 : 2 ≤ k) (k2 : k ≤ 62) (s1 : 0 ≤ size) (s2 : size ≤ 1099511627776) (w : World) :
    Calls Try.prog 15 #[.agg #[.int .i64 n, .int .i64 r, .int .i64 k], .int .i64 size] w (GrowEnd w (growFrom 61 2 (size * r ^ n))) := by
  have hc : combOk n r k = true := by simp [combOk, inB]; omega
  go_enter Try.func15, Try.ntmps15
  go_wp2_with fail
  have B0 := Blk.new w 24 #[.int .i64 n, .int .i64 r, .int .i64 k]
  refine (implIsComb_any _ _ _ _).mono ?_; rintro e w1 ⟨rfl, h1⟩
  have B1 := B0.past h1
  have c0 := B1.cell 0
  have c1 := B1.cell 1
  simp at c0 c1
  have Hb := Lib.hid (thenB ((Below.refl _ _).alloc (Nat.le_refl _) _) h1)
  clear h1 B1 B0
  go_wp2_with fail
  go_loop [6, 21] (fun g i => ∃ j : Nat, j ≤ n ∧ i = .int .i64 j ∧ g = .int .i64 (r ^ j)) (fun _ i => n - (intOf i).toNat)
  case atStart => exact ⟨0, by omega, rfl, by simp⟩
  case round =>
    obtain ⟨j, hj, rfl, rfl⟩ := hrel
    have p1 := pow_ge_one r r1 j
    have p2 := pow_small r r1 r2 j (by omega)
    by_cases hlt : j < n
    · have p3 := pow_ge_one r r1 (j + 1)
      have p4 := pow_small r r1 r2 (j + 1) (by omega)
      have ps := Int.pow_succ r j
      rw [ps] at p3 p4
      have Ps := Lib.hid ps
      clear ps
      go_wp2
      go_round
      case rel => exact ⟨j + 1, by omega, by go_num, by rw [Ps.out]⟩
      case measure => simp [intOf]; omega
    · obtain rfl : j = n := by omega
      go_wp2_with fail
      have Q0 := Lib.hid (rfl : growFrom 61 2 (size * r ^ j) = growFrom 61 2 (size * r ^ j))
      go_loop [7] (fun i => ∃ m : Nat, 2 ≤ m ∧ m ≤ 63 ∧ i = .int .i64 m ∧ Hid (growFrom 61 2 (size * r ^ j) = growFrom (63 - m) m (size * r ^ j))) (fun i => 63 - (intOf i).toNat)
      case atStart => exact ⟨2, by omega, by omega, rfl, rfl⟩
      case round =>
        clear Q0
        obtain ⟨m, hm, hm', rfl, hg⟩ := hrel
        by_cases hlt : m ≤ 62
        · have hp1 := two_pow_62 (m - 1) (by omega)
          have hp2 := two_pow_pos (m - 1)
          go_wp2
          · go_ret2
            have hh : size ≤ (2 ^ (m - 1) - 1) / r ^ j := by assumption
            exact ⟨by rw [hg.out, growFrom_hit p1 hlt hh]; rfl, Hb.out⟩
          · have hh : (2 ^ (m - 1) - 1) / r ^ j < size := by assumption
            go_round
            case rel => exact ⟨m + 1, by omega, by omega, by go_num, hg.out.trans (growFrom_miss p1 hlt hh)⟩
            case measure => simp [intOf]; omega
        · obtain rfl : m = 63 := by omega
          go_wp2
          go_ret2
          exact ⟨by rw [hg.out, growFrom_end]; rfl, Hb.out⟩
theorem implGrowth_no (o r k size : Int) (h : combOk o r k = false ∨ inB size 0 1099511627776 = false) (w : World) :
    Calls Try.prog 15 #[.agg #[.int .i64 o, .int .i64 r, .int .i64 k], .int .i64 size] w (GrowEnd w (0, false)) := by
  rcases Bool.eq_false_or_eq_true (combOk o r k) with hc | hc
  · have hs : size < 0 ∨ 1099511627776 < size := by
      rcases h with h | h
      · rw [hc] at h; cases h
      · simp [inB] at h; omega
    go_enter Try.func15, Try.ntmps15
    go_wp2_with (go_at_call 52; refine (implIsComb_any _ _ _ _).mono ?_; rintro e w1 ⟨rfl, h1⟩)
    all_goals first
      | (exfalso; omega)
      | (go_ret2; exact ⟨rfl, thenB ((Below.refl _ _).alloc (Nat.le_refl _) _) h1⟩)
  · clear h
    go_enter Try.func15, Try.ntmps15
    go_wp2_with (go_at_call 52; refine (implIsComb_any _ _ _ _).mono ?_; rintro e w1 ⟨rfl, h1⟩)
    go_ret2
    exact ⟨rfl, thenB ((Below.refl _ _).alloc (Nat.le_refl _) _) h1⟩
theorem growth_yes (n : Nat) (r k size : Int) (h : (combOk n r k && inB size 0 1099511627776) = true) : growth n r k size = growFrom 61 2 (size * r ^ n) := by
  unfold growth
  unfold combOk at h
  rw [if_pos h]; rfl
theorem growth_no (o r k size : Int) (h : ¬ (combOk o r k && inB size 0 1099511627776) = true) : growth o r k size = (0, false) := by
  unfold growth
  unfold combOk at h
  rw [if_neg h]
theorem no_parts {a b : Bool} (h : ¬ (a && b) = true) : a = false ∨ b = false := by cases a <;> simp_all
theorem implGrowth_any (o r k size : Int) (w : World) :
    Calls Try.prog 15 #[.agg #[.int .i64 o, .int .i64 r, .int .i64 k], .int .i64 size] w (GrowEnd w (growth o r k size)) := by
  by_cases h : (combOk o r k && inB size 0 1099511627776) = true
  · have h' := h
    rw [Bool.and_eq_true] at h'
    obtain ⟨⟨o1, o2⟩, ⟨r1, r2⟩, k1, k2⟩ := comb_parts h'.1
    obtain ⟨s1, s2⟩ := inB_of h'.2
    obtain ⟨n, rfl⟩ : ∃ n : Nat, o = n := ⟨o.toNat, by omega⟩
    rw [growth_yes n r k size h]
    exact implGrowth_yes n r k size (by omega) (by omega) r1 r2 k1 k2 s1 s2 w
  · rw [growth_no _ _ _ _ h]
    exact implGrowth_no o r k size (no_parts h) w
end Go.Proofs.Ytfplecbacgcjgaa
