/- Contracts of l4Sums, PartSums and the two IsBalanced. -/
import Derived.Test.YthpjpnilmpihaaaPPart
namespace Go.Proofs.Ythpjpnilmpihaaa
open Go.RowKit
set_option linter.unusedVariables false
set_option linter.unusedSimpArgs false
def RetIIB (w : World) (x : Int × Int × Bool) (e : Ending) (w' : World) : Prop := e = .returned (.tuple #[.int .i64 x.1, .int .i64 x.2.1, .bool x.2.2]) ∧ Below w.heap.size w w'
set_option maxHeartbeats 1000000 in
theorem implParts_yes (A : Option Addr) (c : Nat) (xs : List Int) (n : Nat) (w : World) (hr : Rd w w.heap.size A xs) (hw : wordOk xs = true) (h1 : 1 ≤ n) (h2 : n ≤ xs.length) :
    Calls Try.prog 31 #[.slice A xs.length c, .int .i64 n] w (RetIIB w (partLow xs n, partHigh xs n, true)) := by
  have hlen := wordOk_len hw
  go_enter Try.func31, Try.ntmps31
  go_wp2_with (go_at_call 28; refine (implIsWord_any _ _ _ _ (by assumption) (by omega)).mono ?_; rintro e w' ⟨rfl, rfl⟩)
  go_loop [7, 8, 9, 28] (fun s l h i => ∃ k : Nat, k ≤ xs.length ∧ i = .int .i64 k ∧ s = .int .i64 (sumAt xs n k) ∧ l = .int .i64 (lowAt xs n k) ∧ h = .int .i64 (highAt xs n k)) (fun _ _ _ i => xs.length - (intOf i).toNat)
  case atStart => exact ⟨0, by omega, rfl, by simp [sumAt, pre_zero], by simp [lowAt]; omega, by simp [highAt]; omega⟩
  case round =>
    obtain ⟨k, hk, rfl, rfl, rfl, rfl⟩ := hrel
    have b1 := sumAt_bd hw (n := n) hk
    have b2 := lowAt_bd hw (n := n) hk
    have b3 := highAt_bd hw (n := n) hk
    by_cases hlt : k < xs.length
    · obtain ⟨ad, rfl, hbl, hcell⟩ := hr.at_ hlt
      have hc1 := hcell k hlt
      have b4 := wordOk_at hw hlt
      by_cases hA : k + 1 < n
      · have e1 := Lib.hid (sumAt_small xs hlt (show k < n by omega))
        have e2 := Lib.hid (lowAt_small xs hA)
        have e3 := Lib.hid (highAt_small xs hA)
        clear hr hcell
        go_wp2
        go_round
        case rel => exact ⟨k + 1, by omega, by go_num, by rw [e1.out], by rw [e2.out], by rw [e3.out]⟩
        case measure => simp [intOf]; omega
      · have e2 := Lib.hid (low_step hw hlt (show n ≤ k + 1 by omega) h1)
        have e3 := Lib.hid (high_step hw hlt (show n ≤ k + 1 by omega) h1)
        by_cases hB : k < n
        · have e1 := Lib.hid (sumAt_small xs hlt hB)
          clear hr hcell
          go_wp2
          go_round
          case rel => exact ⟨k + 1, by omega, by go_num, by rw [e1.out], by rw [e2.out, e1.out]; go_num, by rw [e3.out, e1.out]; go_num⟩
          case measure => simp [intOf]; omega
        · obtain ⟨j, hj⟩ : ∃ j, k = j + n := ⟨k - n, by omega⟩
          have hjl : j < xs.length := by omega
          have hc2 := hcell j hjl
          have b5 := wordOk_at hw hjl
          have e1 := Lib.hid (sumAt_big xs hlt (show n ≤ k by omega) (by omega))
          have b6 := sumAt_bd hw (n := n) (k := k + 1) (by omega)
          subst hj
          simp only [Nat.add_sub_cancel] at e1
          clear hr hcell
          go_wp2
          go_round
          case rel => exact ⟨j + n + 1, by omega, by go_num, by rw [e1.out], by rw [e2.out, e1.out]; go_num, by rw [e3.out, e1.out]; go_num⟩
          case measure => simp [intOf]; omega
    · obtain rfl : k = xs.length := by omega
      have e2 := Lib.hid (lowAt_end h2)
      have e3 := Lib.hid (highAt_end h2)
      go_wp2
      go_ret3
      exact ⟨by rw [← e2.out, ← e3.out]; rfl, Below.refl _ _⟩
theorem implPartSums_any (A : Option Addr) (c : Nat) (xs : List Int) (n : Int) (w : World) (hr : Rd w w.heap.size A xs) (hn : xs.length ≤ 1048576) :
    Calls Try.prog 31 #[.slice A xs.length c, .int .i64 n] w (RetIIB w (parts xs n)) := by
  rcases Bool.eq_false_or_eq_true (wordOk xs) with hw | hw
  · by_cases hc : 1 ≤ n ∧ n ≤ xs.length
    · obtain ⟨m, rfl⟩ : ∃ m : Nat, n = m := ⟨n.toNat, by omega⟩
      rw [parts_yes hw (by omega) (by omega)]
      exact implParts_yes A c xs m w hr hw (by omega) (by omega)
    · have e : partOk xs n = false := by
        simp only [partOk, hw, Bool.true_and]
        rcases Int.lt_or_le n 1 with h | h
        · exact inB_lo h
        · exact inB_hi (by omega)
      rw [parts_no e]
      go_enter Try.func31, Try.ntmps31
      go_wp2_with (go_at_call 28; refine (implIsWord_any _ _ _ _ (by assumption) (by omega)).mono ?_; rintro e w' ⟨rfl, rfl⟩)
      all_goals first
        | (exfalso; omega)
        | (go_ret3; exact ⟨rfl, Below.refl _ _⟩)
  · have e : partOk xs n = false := by simp [partOk, hw]
    rw [parts_no e]
    go_enter Try.func31, Try.ntmps31
    go_wp2_with (go_at_call 28; refine (implIsWord_any _ _ _ _ (by assumption) (by omega)).mono ?_; rintro e w' ⟨rfl, rfl⟩)
    go_ret3
    exact ⟨rfl, Below.refl _ _⟩
set_option maxHeartbeats 1000000 in
theorem implIsBalanced_any (A : Option Addr) (c : Nat) (xs : List Int) (w : World) (hr : Rd w w.heap.size A xs) (hn : xs.length ≤ 1048576) (hcap : xs.length ≤ c) :
    Calls Try.prog 16 #[.slice A xs.length c] w fun e w' => e = .returned (.bool (balB xs)) ∧ Below w.heap.size w w' := by
  rcases Bool.eq_false_or_eq_true (wordOk xs) with hw | hw
  · have hlen := wordOk_len hw
    go_enter Try.func16, Try.ntmps16
    go_wp2_with (go_at_call 28; refine (implIsWord_any _ _ _ _ (by assumption) (by omega)).mono ?_; rintro e w' ⟨rfl, rfl⟩)
    go_loopw [12] (fun i wr => ∃ k : Nat, k ≤ xs.length ∧ i = .int .i64 k ∧ BalTo xs k ∧ Below w.heap.size w wr) (fun i _ => xs.length - (intOf i).toNat)
    case atStart => exact ⟨0, by omega, rfl, balTo_zero xs, Below.refl _ _⟩
    case round =>
      obtain ⟨k, hk, rfl, hB, hb⟩ := hrel
      have R := hr.past hb
      by_cases hlt : k < xs.length
      · rcases Nat.eq_zero_or_pos k with h0 | h0
        · subst h0
          have e : parts xs ((0 : Nat) : Int) = (0, 0, false) := parts_no (by simp only [partOk, hw, Bool.true_and]; exact inB_lo (by omega))
          have E := Lib.hid e
          clear e
          go_wp2_with fail
          refine (implPartSums_any A c xs _ _ R hn).mono ?_; rintro e w1 ⟨rfl, h1⟩
          have e0 := E.out
          simp only [Int.natCast_zero] at e0
          rw [e0]
          have hb1 := hb.trans (h1.mono hb.size)
          clear e0 h1 R
          go_wp2
          go_roundw
          case rel => exact ⟨1, by omega, by go_num, balTo_one xs, hb1⟩
          case measure => simp [intOf]; omega
        · have e := parts_yes hw h0 (show k ≤ xs.length by omega)
          have E := Lib.hid e
          clear e
          have b1 := lowTo_bd hw (n := k) (xs.length - k) (by omega)
          have b2 := highTo_bd hw (n := k) (xs.length - k) (by omega)
          change 0 ≤ partLow xs k ∧ partLow xs k ≤ k at b1
          change 0 ≤ partHigh xs k ∧ partHigh xs k ≤ k at b2
          go_wp2_with fail
          refine (implPartSums_any A c xs _ _ R hn).mono ?_; rintro e w1 ⟨rfl, h1⟩
          rw [E.out]
          have hb1 := hb.trans (h1.mono hb.size)
          clear h1 R
          by_cases hs : partHigh xs k - partLow xs k ≤ 1
          · go_wp2
            go_roundw
            case rel => exact ⟨k + 1, by omega, by go_num, balTo_step hB hs, hb1⟩
            case measure => simp [intOf]; omega
          · go_wp2
            go_ret
            exact ⟨ret_bool (balB_no hw hlt h0 (by unfold spread; omega)).symm, hb1⟩
      · obtain rfl : k = xs.length := by omega
        have E := Lib.hid (balB_yes hw (Nat.le_refl _) hB)
        go_wp2
        go_ret
        exact ⟨ret_bool E.out.symm, hb⟩
  · go_enter Try.func16, Try.ntmps16
    go_wp2_with (go_at_call 28; refine (implIsWord_any _ _ _ _ (by assumption) (by omega)).mono ?_; rintro e w' ⟨rfl, rfl⟩)
    go_ret
    exact ⟨ret_bool (balB_noWord hw).symm, Below.refl _ _⟩
theorem win0 (xs : List Int) (n : Nat) : win xs n 0 = pre xs n := by simp [win, pre_zero]
end Go.Proofs.Ythpjpnilmpihaaa
