/- Contracts of the reference's SumOf, and of the two SlopeOf. -/
import Derived.Test.YthpjpnilmpihaaaChr
import Derived.Test.YthpjpnilmpihaaaPower
import Derived.Test.YthpjpnilmpihaaaPRun4
import Derived.IntWalk
import Derived.BigQuiet
namespace Go.Proofs.Ythpjpnilmpihaaa
open Go.RowKit
set_option linter.unusedVariables false
set_option linter.unusedSimpArgs false
set_option maxHeartbeats 400000 in
theorem specSumOf_any (A : Option Addr) (c : Nat) (xs : List Int) (w : World) (hr : Rd w w.heap.size A xs) (hn : xs.length ≤ 9223372036854775807) :
    Calls Try.prog 49 #[.slice A xs.length c] w fun e w' => e = .returned (.int .i64 (seqSum xs)) ∧ w = w' := by
  rcases Bool.eq_false_or_eq_true (seqOk xs) with hs | hs
  · have hlen := seqOk_len hs
    go_enter Try.func49, Try.ntmps49
    go_wp2_with (go_at_call 67; refine (specIsSequence_any _ _ _ _ hr hn).mono ?_; rintro e w' ⟨rfl, rfl⟩)
    go_loop [3, 11] (fun q i => ∃ k : Nat, k ≤ xs.length ∧ i = .int .i64 k ∧ q = .int .i64 (sumTo (fun v => v) xs k)) (fun _ i => xs.length - (intOf i).toNat)
    case atStart => exact ⟨0, by omega, rfl, by simp [sumTo_zero]⟩
    case round =>
      obtain ⟨k, hk, rfl, rfl⟩ := hrel
      by_cases hlt : k < xs.length
      · obtain ⟨ad, rfl, hbl, hcell⟩ := hr.at_ hlt
        have hc1 := hcell k hlt
        have b1 := sumTo_bd (fun v => v) xs (-1099511627776) 1099511627776 (seqOk_mem hs) k hk
        have b2 := seqOk_at hs hlt
        clear hr hcell
        have hsn := Lib.hid (sumTo_succ (fun v => v) xs hlt)
        go_wp2
        go_round
        case rel => exact ⟨k + 1, by omega, by go_num, by rw [hsn.out]⟩
        case measure => simp [intOf]; omega
      · obtain rfl : k = xs.length := by omega
        have E := Lib.hid (show seqSum xs = sumTo (fun v => v) xs xs.length by rw [sum_id]; simp [seqSum, hs])
        go_wp2
        go_ret
        exact ⟨by rw [E.out]; rfl, rfl⟩
  · go_enter Try.func49, Try.ntmps49
    go_wp2_with (go_at_call 67; refine (specIsSequence_any _ _ _ _ hr hn).mono ?_; rintro e w' ⟨rfl, rfl⟩)
    go_ret
    exact ⟨ret_int (by simp [seqSum, hs]), rfl⟩
def RetIIB2 (w : World) (x : (Int × Int) × Bool) (e : Ending) (w' : World) : Prop := e = .returned (.tuple #[.int .i64 x.1.1, .int .i64 x.1.2, .bool x.2]) ∧ Below w.heap.size w w'
def slopeG (xs : List Int) : Nat := Nat.gcd xs.sum.toNat xs.length
def slope (xs : List Int) : (Int × Int) × Bool := if wordOk xs && decide (xs.length ≠ 0) then ((((xs.sum.toNat / slopeG xs : Nat) : Int), ((xs.length / slopeG xs : Nat) : Int)), true) else ((0, 0), false)
theorem slope_no {xs : List Int} (h : wordOk xs = false) : slope xs = ((0, 0), false) := by simp [slope, h]
theorem slope_nil {xs : List Int} (h : xs.length = 0) : slope xs = ((0, 0), false) := by simp [slope, h]
theorem slope_yes {xs : List Int} (h : wordOk xs = true) (h0 : xs.length ≠ 0) : slope xs = ((((xs.sum.toNat / slopeG xs : Nat) : Int), ((xs.length / slopeG xs : Nat) : Int)), true) := by simp only [slope, h, decide_eq_true h0, Bool.and_self, if_true]
theorem tdiv_nat (a b : Nat) : (a : Int).tdiv (b : Int) = ((a / b : Nat) : Int) := by rw [Int.tdiv_eq_ediv_of_nonneg (by omega)]; rfl
theorem sumOf_word {xs : List Int} (h : wordOk xs = true) : seqSum xs = xs.sum := by simp [seqSum, wordOk_seqOk h]
set_option maxHeartbeats 1000000 in
theorem implSlopeOf_any (A : Option Addr) (c : Nat) (xs : List Int) (w : World) (hr : Rd w w.heap.size A xs) (hn : xs.length ≤ 9223372036854775807) :
    Calls Try.prog 25 #[.slice A xs.length c] w (RetIIB2 w (slope xs)) := by
  rcases Bool.eq_false_or_eq_true (wordOk xs) with h | h
  · have hlen := wordOk_len h
    by_cases h0 : xs.length = 0
    · rw [slope_nil h0]
      have t0 : ((xs.length : Int) == 0) = true := by simp [h0]
      clear h0
      go_enter Try.func25, Try.ntmps25
      go_wp2_with fail
      refine (implIsWord_any _ _ _ _ hr hn).mono ?_; rintro e w' ⟨rfl, rfl⟩
      go_wp2_with fail
      go_ret3
      exact ⟨rfl, Below.refl _ _⟩
    · have t0 : ((xs.length : Int) == 0) = false := beq_eq_false_iff_ne.2 (by omega)
      have hsum : xs.sum = ((xs.sum.toNat : Nat) : Int) ∧ xs.sum.toNat ≤ xs.length := by
        have := bits_sum (fun v hv => wordOk_mem h v hv)
        omega
      obtain ⟨s, hs⟩ : ∃ s, s = xs.sum.toNat := ⟨_, rfl⟩
      have hcall := fun W hr => (show Calls Try.prog 17 #[.slice A xs.length c] W fun e w' => e = .returned (.int .i64 xs.sum) ∧ W = w' from by have q := implSumOf_any A c xs W hr hn; rw [sumOf_word h] at q; exact q)
      rw [hsum.1, ← hs] at hcall
      have Hc := Lib.hid hcall
      have hsl := hsum.2
      rw [slope_yes h h0]
      unfold slopeG
      rw [← hs] at hsl ⊢
      have hg0 : 0 < Nat.gcd s xs.length := Nat.gcd_pos_of_pos_right _ (by omega)
      have hg1 : Nat.gcd s xs.length ≤ xs.length := Nat.gcd_le_right _ (by omega)
      have hgc := fun W => common_any s xs.length W (by omega) (by omega)
      obtain ⟨g, hg⟩ : ∃ g, g = Nat.gcd s xs.length := ⟨_, rfl⟩
      rw [← hg] at hg0 hg1 hgc ⊢
      have Hg := Lib.hid hgc
      clear hcall hgc hs hg hsum
      have z0 : (g : Int) ≠ 0 := by omega
      have z1 := tdiv_nat s g
      have z2 := tdiv_nat xs.length g
      have l1 : s / g ≤ s := Nat.div_le_self _ _
      have l2 : xs.length / g ≤ xs.length := Nat.div_le_self _ _
      obtain ⟨u, hu⟩ : ∃ u, u = s / g := ⟨_, rfl⟩
      obtain ⟨v, hv⟩ : ∃ v, v = xs.length / g := ⟨_, rfl⟩
      rw [← hu] at z1 l1 ⊢
      rw [← hv] at z2 l2 ⊢
      have z3 : IntKind.i64.wrap (u : Int) = u := Go.IntWalk.i64_in _ (by omega)
      have z4 : IntKind.i64.wrap (v : Int) = v := Go.IntWalk.i64_in _ (by omega)
      clear hu hv
      go_enter Try.func25, Try.ntmps25
      go_wp2_with fail
      refine (implIsWord_any _ _ _ _ hr hn).mono ?_; rintro e w' ⟨rfl, rfl⟩
      go_wp2_with fail
      refine (Hc.out _ hr).mono ?_; rintro e w' ⟨rfl, rfl⟩
      go_wp2_with fail
      refine (Hg.out _).mono ?_; rintro e w' ⟨rfl, m, rfl⟩
      go_wp2
      go_quiet (fail)
      go_wp2
      go_ret3
      exact ⟨rfl, below_drewN' (below_drewN' (Below.refl _ _) _) _⟩
  · rw [slope_no h]
    go_enter Try.func25, Try.ntmps25
    go_wp2_with fail
    refine (implIsWord_any _ _ _ _ hr hn).mono ?_; rintro e w' ⟨rfl, rfl⟩
    go_wp2_with fail
    go_ret3
    exact ⟨rfl, Below.refl _ _⟩
set_option maxHeartbeats 1000000 in
theorem specSlopeOf_any (A : Option Addr) (c : Nat) (xs : List Int) (w : World) (hr : Rd w w.heap.size A xs) (hn : xs.length ≤ 9223372036854775807) :
    Calls Try.prog 23 #[.slice A xs.length c] w (RetIIB2 w (slope xs)) := by
  rcases Bool.eq_false_or_eq_true (wordOk xs) with h | h
  · have hlen := wordOk_len h
    by_cases h0 : xs.length = 0
    · rw [slope_nil h0]
      have t0 : ((xs.length : Int) == 0) = true := by simp [h0]
      clear h0
      go_enter Try.func23, Try.ntmps23
      go_wp2_with fail
      refine (specIsWord_any _ _ _ _ hr hn).mono ?_; rintro e w' ⟨rfl, rfl⟩
      go_wp2_with fail
      go_ret3
      exact ⟨rfl, Below.refl _ _⟩
    · have t0 : ((xs.length : Int) == 0) = false := beq_eq_false_iff_ne.2 (by omega)
      have hsum : xs.sum = ((xs.sum.toNat : Nat) : Int) ∧ xs.sum.toNat ≤ xs.length := by
        have := bits_sum (fun v hv => wordOk_mem h v hv)
        omega
      obtain ⟨s, hs⟩ : ∃ s, s = xs.sum.toNat := ⟨_, rfl⟩
      have hcall := fun W hr => (show Calls Try.prog 49 #[.slice A xs.length c] W fun e w' => e = .returned (.int .i64 xs.sum) ∧ W = w' from by have q := specSumOf_any A c xs W hr hn; rw [sumOf_word h] at q; exact q)
      rw [hsum.1, ← hs] at hcall
      have Hc := Lib.hid hcall
      have hsl := hsum.2
      rw [slope_yes h h0]
      unfold slopeG
      rw [← hs] at hsl ⊢
      have hg0 : 0 < Nat.gcd s xs.length := Nat.gcd_pos_of_pos_right _ (by omega)
      have hg1 : Nat.gcd s xs.length ≤ xs.length := Nat.gcd_le_right _ (by omega)
      have hgc := fun W => l4Gcd_any s xs.length W (by omega) (by omega)
      obtain ⟨g, hg⟩ : ∃ g, g = Nat.gcd s xs.length := ⟨_, rfl⟩
      rw [← hg] at hg0 hg1 hgc ⊢
      have Hg := Lib.hid hgc
      clear hcall hgc hs hg hsum
      have z0 : (g : Int) ≠ 0 := by omega
      have z1 := tdiv_nat s g
      have z2 := tdiv_nat xs.length g
      have l1 : s / g ≤ s := Nat.div_le_self _ _
      have l2 : xs.length / g ≤ xs.length := Nat.div_le_self _ _
      obtain ⟨u, hu⟩ : ∃ u, u = s / g := ⟨_, rfl⟩
      obtain ⟨v, hv⟩ : ∃ v, v = xs.length / g := ⟨_, rfl⟩
      rw [← hu] at z1 l1 ⊢
      rw [← hv] at z2 l2 ⊢
      have z3 : IntKind.i64.wrap (u : Int) = u := Go.IntWalk.i64_in _ (by omega)
      have z4 : IntKind.i64.wrap (v : Int) = v := Go.IntWalk.i64_in _ (by omega)
      clear hu hv
      go_enter Try.func23, Try.ntmps23
      go_wp2_with fail
      refine (specIsWord_any _ _ _ _ hr hn).mono ?_; rintro e w' ⟨rfl, rfl⟩
      go_wp2_with fail
      refine (Hc.out _ hr).mono ?_; rintro e w' ⟨rfl, rfl⟩
      go_wp2_with fail
      refine (Hg.out _).mono ?_; rintro e w' ⟨rfl, rfl⟩
      go_wp2
      go_quiet (fail)
      go_wp2
      go_ret3
      exact ⟨rfl, below_drewN' (Below.refl _ _) _⟩
  · rw [slope_no h]
    go_enter Try.func23, Try.ntmps23
    go_wp2_with fail
    refine (specIsWord_any _ _ _ _ hr hn).mono ?_; rintro e w' ⟨rfl, rfl⟩
    go_wp2_with fail
    go_ret3
    exact ⟨rfl, Below.refl _ _⟩
end Go.Proofs.Ythpjpnilmpihaaa
