/- Contracts of l1Done, asSequence and of the two DifferencesOf. -/
import Derived.Test.YtfplecbacgcjgaaDiff
import Derived.Test.YtfplecbacgcjgaaBase
import Derived.Test.YtfplecbacgcjgaaCopy
namespace Go.Proofs.Ytfplecbacgcjgaa
open Go.RowKit
set_option linter.unusedVariables false
set_option linter.unusedSimpArgs false
def doneOf (xs : List Int) : List Int × Bool := if seqOk xs then (xs, true) else ([], false)
theorem doneOf_yes {xs : List Int} (h : seqOk xs = true) : doneOf xs = (xs, true) := by simp [doneOf, h]
theorem doneOf_no {xs : List Int} (h : seqOk xs = false) : doneOf xs = ([], false) := by simp [doneOf, h]
theorem doneOf_len (xs : List Int) : (doneOf xs).1.length ≤ 1000 := by
  unfold doneOf
  split
  · rename_i h; exact seqOk_len h
  · simp
def RetDone (w : World) (B : Nat) (x : List Int × Bool) (e : Ending) (w' : World) : Prop := ∃ A c, e = .returned (.tuple #[.slice A x.1.length c, .bool x.2]) ∧ Own w B A c x.1 ∧ w = w'
theorem l1Done_own (A : Option Addr) (B c : Nat) (xs : List Int) (w : World) (hO : Own w B A c xs) (hn : xs.length ≤ 9223372036854775807) :
    Calls Try.prog 82 #[.slice A xs.length c] w (RetDone w B (doneOf xs)) := by
  have R := own_rd hO
  have O := Lib.hid hO
  clear hO
  rcases Bool.eq_false_or_eq_true (seqOk xs) with h | h
  · rw [doneOf_yes h]
    go_enter Try.func82, Try.ntmps82
    go_wp2_with (go_at_call 60; refine (specIsSequence_any _ _ _ _ (by assumption) (by omega)).mono ?_; rintro e w' ⟨rfl, rfl⟩)
    go_ret2
    exact ⟨A, c, rfl, O.out, rfl⟩
  · rw [doneOf_no h]
    go_enter Try.func82, Try.ntmps82
    go_wp2_with (go_at_call 60; refine (specIsSequence_any _ _ _ _ (by assumption) (by omega)).mono ?_; rintro e w' ⟨rfl, rfl⟩)
    go_ret2
    exact ⟨none, 0, rfl, own_nil _ _, rfl⟩
theorem asSequence_own (A : Option Addr) (B c : Nat) (xs : List Int) (w : World) (hO : Own w B A c xs) (hn : xs.length ≤ 9223372036854775807) :
    Calls Try.prog 67 #[.slice A xs.length c] w (RetDone w B (doneOf xs)) := by
  have R := own_rd hO
  have O := Lib.hid hO
  clear hO
  rcases Bool.eq_false_or_eq_true (seqOk xs) with h | h
  · rw [doneOf_yes h]
    go_enter Try.func67, Try.ntmps67
    go_wp2_with (go_at_call 55; refine (implIsSequence_any _ _ _ _ (by assumption) (by omega)).mono ?_; rintro e w' ⟨rfl, rfl⟩)
    go_ret2
    exact ⟨A, c, rfl, O.out, rfl⟩
  · rw [doneOf_no h]
    go_enter Try.func67, Try.ntmps67
    go_wp2_with (go_at_call 55; refine (implIsSequence_any _ _ _ _ (by assumption) (by omega)).mono ?_; rintro e w' ⟨rfl, rfl⟩)
    go_ret2
    exact ⟨none, 0, rfl, own_nil _ _, rfl⟩
def diffOk (xs : List Int) (k : Int) : Bool := seqOk xs && inB k 0 6
def diffOf (xs : List Int) (k : Int) : List Int × Bool := if diffOk xs k then doneOf (diffN xs k.toNat) else ([], false)
theorem diffOf_yes {xs : List Int} {k : Nat} (h : seqOk xs = true) (hk : k ≤ 6) : diffOf xs k = doneOf (diffN xs k) := by
  have e : diffOk xs k = true := by simp only [diffOk, h, Bool.true_and]; exact inB_true (by omega) (by omega)
  simp [diffOf, e]
theorem diffOf_noSeq {xs : List Int} {k : Int} (h : seqOk xs = false) : diffOf xs k = ([], false) := by simp [diffOf, diffOk, h]
theorem diffOf_noOrder {xs : List Int} {k : Int} (h : inB k 0 6 = false) : diffOf xs k = ([], false) := by simp [diffOf, diffOk, h]
theorem diffOf_len (xs : List Int) (k : Int) : (diffOf xs k).1.length ≤ 1000 := by
  unfold diffOf
  split
  · exact doneOf_len _
  · simp
theorem implDifferencesOf_any (A : Option Addr) (c : Nat) (xs : List Int) (k : Int) (w : World) (hr : Rd w w.heap.size A xs) (hn : xs.length ≤ 1048576) :
    Calls Try.prog 78 #[.slice A xs.length c, .int .i64 k] w (RetLB w (diffOf xs k)) := by
  rcases Bool.eq_false_or_eq_true (seqOk xs) with hs | hs
  · rcases Bool.eq_false_or_eq_true (inB k 0 6) with hk | hk
    · obtain ⟨k1, k2⟩ := inB_of hk
      obtain ⟨n, rfl⟩ : ∃ n : Nat, k = n := ⟨k.toNat, by omega⟩
      rw [diffOf_yes hs (by omega)]
      have HX : Hid (∀ x ∈ xs, -1099511627776 ≤ x ∧ x ≤ 1099511627776) := seqOk_mem hs
      go_enter Try.func78, Try.ntmps78
      go_wp2_with (first | (go_at_call 55; refine (implIsSequence_any _ _ _ _ (by assumption) (by omega)).mono ?_; rintro e w' ⟨rfl, rfl⟩) | (go_at_call 85; refine (isOrder_any _ _).mono ?_; rintro e w' ⟨rfl, rfl⟩))
      refine (differences_any _ _ _ n _ hr (by omega) (by omega) HX).mono ?_; rintro e w1 ⟨A1, c1, rfl, O1, h1⟩
      go_wp2_with fail
      refine (asSequence_own _ _ _ _ _ O1 (by rw [diffN_length]; omega)).mono ?_; rintro e w2 ⟨A2, c2, rfl, O2, rfl⟩
      go_wp2_with fail
      go_ret2
      exact ⟨A2, c2, rfl, O2, h1⟩
    · rw [diffOf_noOrder hk]
      go_enter Try.func78, Try.ntmps78
      go_wp2_with (first | (go_at_call 55; refine (implIsSequence_any _ _ _ _ (by assumption) (by omega)).mono ?_; rintro e w' ⟨rfl, rfl⟩) | (go_at_call 85; refine (isOrder_any _ _).mono ?_; rintro e w' ⟨rfl, rfl⟩))
      go_ret2
      exact ⟨none, 0, rfl, own_nil _ _, Below.refl _ _⟩
  · rw [diffOf_noSeq hs]
    go_enter Try.func78, Try.ntmps78
    go_wp2_with (go_at_call 55; refine (implIsSequence_any _ _ _ _ (by assumption) (by omega)).mono ?_; rintro e w' ⟨rfl, rfl⟩)
    go_ret2
    exact ⟨none, 0, rfl, own_nil _ _, Below.refl _ _⟩
set_option maxHeartbeats 1000000 in
theorem specDifferences_yes (A : Option Addr) (c : Nat) (xs : List Int) (n : Nat) (w : World) (hr : Rd w w.heap.size A xs) (hs : seqOk xs = true) (hn : n ≤ 6) :
    Calls Try.prog 75 #[.slice A xs.length c, .int .i64 n] w (RetLB w (doneOf (diffN xs n))) := by
  have HX : Hid (∀ x ∈ xs, -1099511627776 ≤ x ∧ x ≤ 1099511627776) := seqOk_mem hs
  have hlen := seqOk_len hs
  have hk : inB (n : Int) 0 6 = true := inB_true (by omega) (by omega)
  go_enter Try.func75, Try.ntmps75
  go_wp2_with (first | (go_at_call 60; refine (specIsSequence_any _ _ _ _ (by assumption) (by omega)).mono ?_; rintro e w' ⟨rfl, rfl⟩) | (go_at_call 70; refine (l1In_any _ _ _ _).mono ?_; rintro e w' ⟨rfl, rfl⟩))
  refine (l1Copy_any _ _ _ _ hr (by omega)).mono ?_; rintro e w1 ⟨A1, c1, rfl, O1, h1⟩
  clear hr hk
  go_wp2_with fail
  go_loopw [1] (fun i wr => ∃ j : Nat, j ≤ n ∧ i = .int .i64 (n - j : Nat) ∧ Own wr w.heap.size A1 c1 (diffN xs j) ∧ Below w.heap.size w wr) (fun i _ => (intOf i).toNat)
  case atStart => exact ⟨0, by omega, rfl, O1, h1⟩
  case round =>
    clear O1 h1
    obtain ⟨j, hj, rfl, O2, h2⟩ := hrel
    by_cases hlt : j < n
    · obtain ⟨q, hq1, hq2⟩ : ∃ q : Nat, n - j = q + 1 ∧ q + 1 + j = n := ⟨n - j - 1, by omega, by omega⟩
      rw [hq1]
      have Hq := Lib.hid hq2
      have hq3 : q ≤ 5 := by omega
      clear hq1 hq2
      have hb := Lib.hid (diffN_small HX.out j (by omega))
      have hl := Lib.hid (diffN_length xs j)
      obtain ⟨D, hD⟩ : ∃ D, D = diffN xs j := ⟨_, rfl⟩
      rw [← hD] at hb hl O2
      have HD := Lib.hid hD
      clear hD
      have hl1 : xs.length ≤ D.length := by have := hl.out; omega
      have hl2 : D.length ≤ xs.length := by have := hl.out; omega
      obtain ⟨wo, hwo⟩ : ∃ wo : World, wo = wr := ⟨_, rfl⟩
      subst hwo
      go_wp2_with fail
      go_loopw [7] (fun i wr => ∃ (t : Nat) (ys : List Int), t ≤ xs.length ∧ i = .int .i64 (t - 1) ∧ Hid (DiffTo D ys t) ∧ Hid (Own wr w.heap.size A1 c1 ys) ∧ Below w.heap.size w wr) (fun i _ => (intOf i).toNat)
      case atStart => exact ⟨xs.length, D, by omega, rfl, by rw [← hl.out]; exact diffTo_start D, O2, h2⟩
      case round =>
        clear O2 h2
        obtain ⟨t, ys, ht, rfl, hT, hO, hB⟩ := hrel
        by_cases h2 : 2 ≤ t
        · obtain ⟨i, hi1, hi2⟩ : ∃ i : Nat, ((t : Int) - 1) = i + 1 ∧ t = i + 2 := ⟨t - 2, by omega, by omega⟩
          subst hi2
          rw [hi1]
          clear hi1
          have hly : i + 1 < ys.length := by have := hT.out.1; omega
          have hly2 : i < ys.length := by omega
          obtain ⟨g, rfl, hg, _⟩ := own_head hO.out hly
          have hc1 := own_cell hO.out hly
          have hc2 := own_cell hO.out (j := i) (by omega)
          have hf1 := own_frozen hO.out (i + 1)
          have hbd := fun u (hu : u < D.length) => hb.out _ (List.getElem_mem hu)
          have b1 := hbd (i + 1) (by omega)
          have b2 := hbd i (by omega)
          rw [← diffTo_at hT.out (u := i + 1) (by omega) hly (by omega)] at b1
          rw [← diffTo_at hT.out (u := i) (by omega) (by omega) (by omega)] at b2
          clear hbd
          go_wp2
          go_region
          go_wp2
          go_roundw
          case rel => exact ⟨i + 1, ys.set (i + 1) (ys[i + 1] - ys[i]), by omega, by go_num, diffTo_step hT.out hly, own_set hO.out _ _, (hB.setCell (by simpa using hg) _).drew⟩
          case measure => simp [intOf]
        · have e := Lib.hid (diffTo_end hT.out (by omega))
          go_wp2
          go_roundw
          case rel => exact ⟨j + 1, by omega, by have := Hq.out; go_num, by rw [diffN, ← HD.out, ← e.out]; exact hO.out, hB⟩
          case measure => simp [intOf]
    · obtain rfl : j = n := by omega
      rw [Nat.sub_self]
      have hdl := diffN_length xs j
      have hdone := l1Done_own A1 w.heap.size c1 (diffN xs j) wr O2 (by omega)
      rw [hdl] at hdone
      have Hdone : Hid (Calls Try.prog 82 #[.slice A1 xs.length c1] wr (RetDone wr w.heap.size (doneOf (diffN xs j)))) := hdone
      clear hdone hdl
      go_wp2_with fail
      refine (show Calls Try.prog 82 #[.slice A1 xs.length c1] wr (RetDone wr w.heap.size (doneOf (diffN xs j))) from Hdone).mono ?_; rintro e w2 ⟨A2, c2, rfl, O3, rfl⟩
      go_wp2_with fail
      go_ret2
      exact ⟨A2, c2, rfl, O3, h2⟩
theorem specDifferencesOf_any (A : Option Addr) (c : Nat) (xs : List Int) (k : Int) (w : World) (hr : Rd w w.heap.size A xs) (hn : xs.length ≤ 1048576) :
    Calls Try.prog 75 #[.slice A xs.length c, .int .i64 k] w (RetLB w (diffOf xs k)) := by
  rcases Bool.eq_false_or_eq_true (seqOk xs) with hs | hs
  · rcases Bool.eq_false_or_eq_true (inB k 0 6) with hk | hk
    · obtain ⟨k1, k2⟩ := inB_of hk
      obtain ⟨n, rfl⟩ : ∃ n : Nat, k = n := ⟨k.toNat, by omega⟩
      rw [diffOf_yes hs (by omega)]
      exact specDifferences_yes A c xs n w hr hs (by omega)
    · rw [diffOf_noOrder hk]
      go_enter Try.func75, Try.ntmps75
      go_wp2_with (first | (go_at_call 60; refine (specIsSequence_any _ _ _ _ (by assumption) (by omega)).mono ?_; rintro e w' ⟨rfl, rfl⟩) | (go_at_call 70; refine (l1In_any _ _ _ _).mono ?_; rintro e w' ⟨rfl, rfl⟩))
      go_ret2
      exact ⟨none, 0, rfl, own_nil _ _, Below.refl _ _⟩
  · rw [diffOf_noSeq hs]
    go_enter Try.func75, Try.ntmps75
    go_wp2_with (go_at_call 60; refine (specIsSequence_any _ _ _ _ (by assumption) (by omega)).mono ?_; rintro e w' ⟨rfl, rfl⟩)
    go_ret2
    exact ⟨none, 0, rfl, own_nil _ _, Below.refl _ _⟩
end Go.Proofs.Ytfplecbacgcjgaa
