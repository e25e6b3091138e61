/- Contracts of the two DitherInput. -/
import Derived.Test.YteabibkbmigpaaaApp
import Derived.Test.YteabibkbmigpaaaSeq
namespace Go.Proofs.Yteabibkbmigpaaa
open Go.RowKit
set_option linter.unusedVariables false
set_option linter.unusedSimpArgs false
def ditherL (xs ds : List Int) (m : Int) : List Int := xs.mapIdx fun i v => (v + ds.getD (i % ds.length) 0) % m
def ditherOk (xs ds : List Int) (m : Int) : Bool := seqOk xs && seqOk ds && decide (0 < ds.length) && inB m 2 1048576
def dither (xs ds : List Int) (m : Int) : List Int × Bool := if ditherOk xs ds m then (ditherL xs ds m, true) else ([], false)
theorem ditherL_length (xs ds : List Int) (m : Int) : (ditherL xs ds m).length = xs.length := by simp [ditherL]
theorem ditherL_at (xs ds : List Int) (m : Int) {k : Nat} (hk : k < xs.length) (hk' : k < (ditherL xs ds m).length) : (ditherL xs ds m)[k] = (xs[k] + ds.getD (k % ds.length) 0) % m := by simp [ditherL]
theorem tmod_bd (x m : Int) (hm : 0 < m) : -m < x.tmod m ∧ x.tmod m < m := by
  have h1 := Int.tmod_lt_of_pos x hm
  have h2 := Int.lt_tmod_of_pos x hm
  omega
theorem tmod_emod (x m : Int) (hm : 0 < m) : (x.tmod m < 0 → x.tmod m + m = x % m) ∧ (0 ≤ x.tmod m → x.tmod m = x % m) := by
  have hb := tmod_bd x m hm
  have e : x % m = (x.tmod m) % m := by
    have h := Int.mul_tdiv_add_tmod x m
    conv => lhs; rw [← h]
    rw [Int.add_comm, Int.add_mul_emod_self_left]
  constructor
  · intro h
    rw [e, ← Int.add_emod_right]
    exact (Int.emod_eq_of_lt (by omega) (by omega)).symm
  · intro h
    rw [e]
    exact (Int.emod_eq_of_lt h (by omega)).symm
theorem tmod_mod (x m : Int) (hm : 0 < m) : x.tmod m % m = x % m := by
  have h := tmod_emod x m hm
  rcases Int.lt_or_le (x.tmod m) 0 with h0 | h0
  · rw [← h.1 h0, ← Int.add_emod_right, Int.emod_eq_of_lt (by have := tmod_bd x m hm; omega) (by have := tmod_bd x m hm; omega)]
  · rw [h.2 h0, Int.emod_emod_of_dvd _ (Int.dvd_refl m)]
set_option maxHeartbeats 400000 in
theorem implDither_yes (A : Option Addr) (c : Nat) (xs : List Int) (A' : Option Addr) (c' : Nat) (ds : List Int) (m : Int) (w : World) (hr : Rd w w.heap.size A xs) (hr' : Rd w w.heap.size A' ds)
    (hx : seqOk xs = true) (hd : seqOk ds = true) (h0 : 0 < ds.length) (m1 : 2 ≤ m) (m2 : m ≤ 1048576) :
    Calls Try.prog 52 #[.slice A xs.length c, .slice A' ds.length c', .int .i64 m] w (RetLB w (ditherL xs ds m, true)) := by
  have hlx := seqOk_len hx
  have hld := seqOk_len hd
  have hm := inB_true m1 m2
  have t0 : ((ds.length : Int) == 0) = false := beq_eq_false_iff_ne.2 (by omega)
  have hL := ditherL_length xs ds m
  have HL := Lib.hid hL
  have hL1 : xs.length ≤ (ditherL xs ds m).length := by omega
  clear hL
  go_enter Try.func52, Try.ntmps52
  go_wp2_with (first | (go_at_call 69; refine (implIsSequence_any _ _ _ _ (by assumption) (by omega)).mono ?_; rintro e w' ⟨rfl, rfl⟩) | (go_at_call 87; refine (isModulus_any _ _).mono ?_; rintro e w' ⟨rfl, rfl⟩))
  go_loopw [8, 32] (fun q i wr => ∃ (k : Nat) (Aq : Option Addr) (cq : Nat), k ≤ xs.length ∧ i = .int .i64 k ∧ q = .slice Aq k cq ∧ Own wr w.heap.size Aq cq ((ditherL xs ds m).take k) ∧ Below w.heap.size w wr) (fun _ i _ => xs.length - (intOf i).toNat)
  case atStart => exact ⟨0, _, 0, by omega, rfl, rfl, own_empty w _ (Nat.le_refl _), (Below.refl _ _).alloc (Nat.le_refl _) _⟩
  case round =>
    obtain ⟨k, Aq, cq, hk, rfl, rfl, hown, hb⟩ := hrel
    by_cases hlt : k < xs.length
    · obtain ⟨ad, rfl, hbl, hcell⟩ := hr.at_ hlt
      have hj : k % ds.length < ds.length := Nat.mod_lt _ h0
      obtain ⟨ad', rfl, hbl', hcell'⟩ := hr'.at_ hj
      have hc1 : wr.cell? (ad.add k) = some (.int .i64 (xs.getD k 0)) := (hb.cell (by rw [block_add]; exact hbl)).trans (hcell k hlt)
      have hc2 : wr.cell? (ad'.add (k % ds.length)) = some (.int .i64 (ds.getD (k % ds.length) 0)) := (hb.cell (by rw [block_add]; exact hbl')).trans (hcell' _ hj)
      have b1 := seqOk_at hx hlt
      have b2 := seqOk_at hd hj
      have b3 := tmod_bd (xs[k] + ds[k % ds.length]) m (by omega)
      clear hr hr' hcell hcell'
      go_wp2_with (at_builtin; refine app_take rfl (.tmp 37) (.tmp 53) rfl w.heap.size Aq cq k (ditherL xs ds m) _ (by omega) ?_ rfl hown rfl (by omega) hb.size ?_)
      · rw [ditherL_at _ _ _ hlt, getD_at hj]
        exact (tmod_mod _ _ (by omega)).symm
      intro A1 c1 w1 hown1 hw1 hm1
      go_wp2
      go_roundw
      case rel => exact ⟨k + 1, A1, c1, by omega, by go_num, rfl, hown1, below_app hb hw1 hown hb.size⟩
      case measure => simp [intOf]; omega
    · obtain rfl : k = xs.length := by omega
      go_wp2
      go_ret2
      have e : (ditherL xs ds m).take xs.length = ditherL xs ds m := List.take_of_length_le (by have := HL.out; omega)
      rw [e] at hown
      exact ⟨Aq, cq, by rw [HL.out]; rfl, hown, hb⟩
theorem dither_no {xs ds : List Int} {m : Int} (h : ditherOk xs ds m = false) : dither xs ds m = ([], false) := by simp [dither, h]
theorem dither_yes {xs ds : List Int} {m : Int} (h : ditherOk xs ds m = true) : dither xs ds m = (ditherL xs ds m, true) := by simp [dither, h]
theorem ditherOk_parts {xs ds : List Int} {m : Int} (h : ditherOk xs ds m = true) : seqOk xs = true ∧ seqOk ds = true ∧ 0 < ds.length ∧ 2 ≤ m ∧ m ≤ 1048576 := by
  simp only [ditherOk, Bool.and_eq_true, decide_eq_true_eq] at h
  exact ⟨h.1.1.1, h.1.1.2, h.1.2, inB_of h.2⟩
set_option maxHeartbeats 400000 in
theorem implDitherInput_any (A : Option Addr) (c : Nat) (xs : List Int) (A' : Option Addr) (c' : Nat) (ds : List Int) (m : Int) (w : World) (hr : Rd w w.heap.size A xs) (hn : xs.length ≤ 1048576) (hr' : Rd w w.heap.size A' ds) (hn' : ds.length ≤ 1048576) :
    Calls Try.prog 52 #[.slice A xs.length c, .slice A' ds.length c', .int .i64 m] w (RetLB w (dither xs ds m)) := by
  rcases Bool.eq_false_or_eq_true (ditherOk xs ds m) with h | h
  · rw [dither_yes h]
    obtain ⟨h1, h2, h3, h4, h5⟩ := ditherOk_parts h
    exact implDither_yes A c xs A' c' ds m w hr hr' h1 h2 h3 h4 h5
  · rw [dither_no h]
    rcases Bool.eq_false_or_eq_true (seqOk xs) with hx | hx
    · rcases Bool.eq_false_or_eq_true (seqOk ds) with hd | hd
      · by_cases h0 : 0 < ds.length
        · have t0 : ((ds.length : Int) == 0) = false := beq_eq_false_iff_ne.2 (by omega)
          have hm : inB m 2 1048576 = false := by
            simp only [ditherOk, hx, hd, decide_eq_true h0, Bool.true_and] at h
            exact h
          go_enter Try.func52, Try.ntmps52
          go_wp2_with (first | (go_at_call 69; refine (implIsSequence_any _ _ _ _ (by assumption) (by omega)).mono ?_; rintro e w' ⟨rfl, rfl⟩) | (go_at_call 87; refine (isModulus_any _ _).mono ?_; rintro e w' ⟨rfl, rfl⟩))
          go_ret2
          exact ⟨none, 0, rfl, own_nil _ _, Below.refl _ _⟩
        · have t0 : ((ds.length : Int) == 0) = true := beq_iff_eq.2 (by omega)
          go_enter Try.func52, Try.ntmps52
          go_wp2_with (go_at_call 69; refine (implIsSequence_any _ _ _ _ (by assumption) (by omega)).mono ?_; rintro e w' ⟨rfl, rfl⟩)
          go_ret2
          exact ⟨none, 0, rfl, own_nil _ _, Below.refl _ _⟩
      · go_enter Try.func52, Try.ntmps52
        go_wp2_with (go_at_call 69; refine (implIsSequence_any _ _ _ _ (by assumption) (by omega)).mono ?_; rintro e w' ⟨rfl, rfl⟩)
        go_ret2
        exact ⟨none, 0, rfl, own_nil _ _, Below.refl _ _⟩
    · go_enter Try.func52, Try.ntmps52
      go_wp2_with (go_at_call 69; refine (implIsSequence_any _ _ _ _ (by assumption) (by omega)).mono ?_; rintro e w' ⟨rfl, rfl⟩)
      go_ret2
      exact ⟨none, 0, rfl, own_nil _ _, Below.refl _ _⟩
theorem dither_len (xs ds : List Int) (m : Int) : (dither xs ds m).1.length ≤ 1000 := by
  unfold dither
  split
  · rename_i h
    have := seqOk_len (ditherOk_parts h).1
    rw [ditherL_length]; exact this
  · simp
end Go.Proofs.Yteabibkbmigpaaa
