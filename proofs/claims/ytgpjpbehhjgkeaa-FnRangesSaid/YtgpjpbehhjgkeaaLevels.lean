/- Contracts of the two LevelsOf. -/
import Derived.Test.YtgpjpbehhjgkeaaDiff
import Derived.Test.YtgpjpbehhjgkeaaPSum
import Derived.Test.YtgpjpbehhjgkeaaBase
namespace Go.Proofs.Ytgpjpbehhjgkeaa
open Go.RowKit
set_option linter.unusedVariables false
set_option linter.unusedSimpArgs false
def neg0 (c : Int) : Int := min c 0
def pos0 (c : Int) : Int := max c 0
def levs : Nat → Int × Int
  | 0 => (0, 0)
  | n + 1 => ((levs n).1 + ((coefs n).map neg0).sum, (levs n).2 + ((coefs n).map pos0).sum)
def levels (o m : Int) : Int × Int := if accOk o m then levs o.toNat else (0, 0)
theorem coefs_small (j : Nat) (h : j ≤ 6) : ∀ c ∈ coefs j, -64 ≤ c ∧ c ≤ 64 := by
  have : j = 0 ∨ j = 1 ∨ j = 2 ∨ j = 3 ∨ j = 4 ∨ j = 5 ∨ j = 6 := by omega
  rcases this with rfl | rfl | rfl | rfl | rfl | rfl | rfl <;> decide
theorem levs_small (j : Nat) (h : j ≤ 6) : -64 ≤ (levs j).1 ∧ (levs j).1 ≤ 64 ∧ -64 ≤ (levs j).2 ∧ (levs j).2 ≤ 64 := by
  have : j = 0 ∨ j = 1 ∨ j = 2 ∨ j = 3 ∨ j = 4 ∨ j = 5 ∨ j = 6 := by omega
  rcases this with rfl | rfl | rfl | rfl | rfl | rfl | rfl <;> decide
theorem negTo_bd (j : Nat) (h : j ≤ 6) (k : Nat) (hk : k ≤ (coefs j).length) : -448 ≤ sumTo neg0 (coefs j) k ∧ sumTo neg0 (coefs j) k ≤ 0 := by
  have h1 := sumTo_bd neg0 (coefs j) (-64) 0 (fun x hx => by have := coefs_small j h x hx; unfold neg0; omega) k hk
  rw [coefs_length] at hk
  omega
theorem posTo_bd (j : Nat) (h : j ≤ 6) (k : Nat) (hk : k ≤ (coefs j).length) : 0 ≤ sumTo pos0 (coefs j) k ∧ sumTo pos0 (coefs j) k ≤ 448 := by
  have h1 := sumTo_bd pos0 (coefs j) 0 64 (fun x hx => by have := coefs_small j h x hx; unfold pos0; omega) k hk
  rw [coefs_length] at hk
  omega
theorem levs_step (j : Nat) : levs (j + 1) = ((levs j).1 + sumTo neg0 (coefs j) (coefs j).length, (levs j).2 + sumTo pos0 (coefs j) (coefs j).length) := by
  rw [sumTo_all, sumTo_all]; rfl
def RetII (w : World) (x : Int × Int) (e : Ending) (w' : World) : Prop := e = .returned (.tuple #[.int .i64 x.1, .int .i64 x.2]) ∧ Below w.heap.size w w'
set_option maxHeartbeats 1000000 in
theorem implLevels_yes (n : Nat) (m : Int) (w : World) (hacc : accOk n m = true) (hn1 : 1 ≤ n) (hn : n ≤ 6) :
    Calls Try.prog 9 #[.agg #[.int .i64 n, .int .i64 m]] w (RetII w (levs n)) := by
  go_enter Try.func9, Try.ntmps9
  go_wp2_with fail
  have B0 := Blk.new w 33 #[.int .i64 n, .int .i64 m]
  refine (implIsAccumulator_any _ _ _).mono ?_; rintro e w1 ⟨rfl, h1⟩
  have B1 := B0.past h1
  have Hb := Lib.hid (thenB ((Below.refl _ _).alloc (Nat.le_refl _) _) h1)
  have c0 := B1.cell 0
  simp at c0
  clear B0 h1 B1
  go_wp2_with fail
  clear c0
  go_loopw [4, 5, 16] (fun l h i wr => ∃ j : Nat, j ≤ n ∧ i = .int .i64 j ∧ l = .int .i64 (levs j).1 ∧ h = .int .i64 (levs j).2 ∧ Below w.heap.size w wr) (fun _ _ i _ => n - (intOf i).toNat)
  case atStart => exact ⟨0, by omega, rfl, rfl, rfl, Hb.out⟩
  case round =>
    obtain ⟨j, hj, rfl, rfl, rfl, hB⟩ := hrel
    by_cases hlt : j < n
    · go_wp2_with fail
      refine (implDifferenceCoefs_any _ _).mono ?_; rintro e w2 ⟨A2, c2, rfl, O2, h2⟩
      rw [coefsI_yes j (by omega)] at O2 ⊢
      have R2 := own_rd O2
      have hB2 := hB.trans (h2.mono hB.size)
      have bl := levs_small j (by omega)
      have hcl : (coefs j).length ≤ 7 := by rw [coefs_length]; omega
      clear O2 h2
      go_wp2_with fail
      obtain ⟨wo, hwo⟩ : ∃ wo : World, wo = w2 := ⟨_, rfl⟩
      subst hwo
      go_loop [4, 5, 22] (fun l h i => ∃ k : Nat, k ≤ (coefs j).length ∧ i = .int .i64 k ∧ l = .int .i64 ((levs j).1 + sumTo neg0 (coefs j) k) ∧ h = .int .i64 ((levs j).2 + sumTo pos0 (coefs j) k)) (fun _ _ i => (coefs j).length - (intOf i).toNat)
      case atStart => exact ⟨0, by omega, rfl, by simp [sumTo_zero], by simp [sumTo_zero]⟩
      case round =>
        obtain ⟨k, hk, rfl, rfl, rfl⟩ := hrel
        have bn := negTo_bd j (by omega) k hk
        have bp := posTo_bd j (by omega) k hk
        by_cases hlt2 : k < (coefs j).length
        · obtain ⟨ad, rfl, hbl, hcell⟩ := R2.at_ hlt2
          have hc1 := hcell k hlt2
          have bc := coefs_small j (by omega) _ (List.getElem_mem hlt2)
          have sn := Lib.hid (sumTo_succ neg0 (coefs j) hlt2)
          have sp := Lib.hid (sumTo_succ pos0 (coefs j) hlt2)
          clear R2 hcell
          go_wp2
          go_round
          case rel => exact ⟨k + 1, by omega, by go_num, by rw [sn.out]; unfold neg0; go_num, by rw [sp.out]; unfold pos0; go_num⟩
          case measure => simp [intOf]; omega
        · obtain rfl : k = (coefs j).length := by omega
          have st := Lib.hid (levs_step j)
          go_wp2
          go_roundw
          case rel => exact ⟨j + 1, by omega, by go_num, by rw [st.out], by rw [st.out], hB2⟩
          case measure => simp [intOf]; omega
    · obtain rfl : j = n := by omega
      go_wp2_with fail
      go_ret2
      exact ⟨rfl, hB⟩
theorem implLevelsOf_any (o m : Int) (w : World) :
    Calls Try.prog 9 #[.agg #[.int .i64 o, .int .i64 m]] w (RetII w (levels o m)) := by
  rcases Bool.eq_false_or_eq_true (accOk o m) with hacc | hacc
  · obtain ⟨⟨o1, o2⟩, _⟩ := acc_parts hacc
    obtain ⟨n, rfl⟩ : ∃ n : Nat, o = n := ⟨o.toNat, by omega⟩
    have e : levels n m = levs n := by simp [levels, hacc]
    rw [e]
    exact implLevels_yes n m w hacc (by omega) (by omega)
  · have e : levels o m = (0, 0) := by simp [levels, hacc]
    rw [e]
    go_enter Try.func9, Try.ntmps9
    go_wp2_with fail
    refine (implIsAccumulator_any _ _ _).mono ?_; rintro e w1 ⟨rfl, h1⟩
    go_wp2_with fail
    go_ret2
    exact ⟨rfl, thenB ((Below.refl _ _).alloc (Nat.le_refl _) _) h1⟩
end Go.Proofs.Ytgpjpbehhjgkeaa
