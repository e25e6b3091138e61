/- Contracts of the two IsRests and the two PowerOf. -/
import Derived.Test.YteabibkbmigpaaaFunc
namespace Go.Proofs.Yteabibkbmigpaaa
open Go.RowKit
set_option linter.unusedVariables false
set_option linter.unusedSimpArgs false
def restsOk (o m : Int) (xs : List Int) : Bool := accOk o m && decide ((xs.length : Int) = o) && xs.all (restB m)
theorem restB_in {m v : Int} : inB v 0 (m - 1) = restB m v := by
  rw [Bool.eq_iff_iff]; simp [inB, restB]; omega
theorem acc_parts {o m : Int} (h : accOk o m = true) : (1 ≤ o ∧ o ≤ 6) ∧ 2 ≤ m ∧ m ≤ 1048576 := by simp [accOk, inB] at h; omega
theorem restsOk_parts {o m : Int} {xs : List Int} (h : restsOk o m xs = true) : ((1 ≤ o ∧ o ≤ 6) ∧ 2 ≤ m ∧ m ≤ 1048576) ∧ (xs.length : Int) = o ∧ ∀ x ∈ xs, 0 ≤ x ∧ x < m := by
  simp only [restsOk, Bool.and_eq_true, List.all_eq_true] at h
  refine ⟨acc_parts h.1.1, by simpa using h.1.2, fun x hx => ?_⟩
  have := h.2 x hx
  simpa [restB] using this
theorem restsOk_noAcc {o m : Int} {xs : List Int} (h : accOk o m = false) : restsOk o m xs = false := by simp [restsOk, h]
theorem restsOk_no {o m : Int} {xs : List Int} {k : Nat} (hk : k < xs.length) (h : restB m xs[k] = false) : restsOk o m xs = false := by
  simp only [restsOk, all_no hk h, Bool.and_false]
theorem restsOk_end {o m : Int} {xs : List Int} (h : accOk o m = true) (ha : AllTo (restB m) xs xs.length) : restsOk o m xs = ((xs.length : Int) == o) := by
  simp only [restsOk, h, allTo_end ha, Bool.true_and, Bool.and_true]
  rw [Bool.eq_iff_iff]; simp
theorem restsOk_all {o m : Int} {xs : List Int} (h : accOk o m = true) (hl : ((xs.length : Int) == o) = true) : restsOk o m xs = xs.all (restB m) := by
  simp only [restsOk, h, Bool.true_and]
  simp only [beq_iff_eq] at hl
  simp [hl]
theorem restsOk_noLen {o m : Int} {xs : List Int} (hl : ((xs.length : Int) == o) = false) : restsOk o m xs = false := by
  simp only [beq_eq_false_iff_ne] at hl
  simp [restsOk, hl]
set_option maxHeartbeats 400000 in
theorem specIsRests_any (o m : Int) (A : Option Addr) (c : Nat) (xs : List Int) (w : World) (hr : Rd w w.heap.size A xs) (hn : xs.length ≤ 9223372036854775807) :
    Calls Try.prog 20 #[.agg #[.int .i64 o, .int .i64 m], .slice A xs.length c] w fun e w' => e = .returned (.bool (restsOk o m xs)) ∧ Below w.heap.size w w' := by
  have hb0 : Below w.heap.size w (w.alloc (.cells #[.int .i64 o, .int .i64 m] 24)) := (Below.refl _ _).alloc (Nat.le_refl _) _
  have hR := hr.below hb0
  have Hb := Lib.hid hb0
  clear hb0 hr
  rcases Bool.eq_false_or_eq_true (accOk o m) with hacc | hacc
  · obtain ⟨_, m1, m2⟩ := acc_parts hacc
    go_enter Try.func20, Try.ntmps20
    go_wp2
    go_loop [9] (fun i => ∃ k : Nat, k ≤ xs.length ∧ i = .int .i64 k ∧ AllTo (restB m) xs k) (fun i => xs.length - (intOf i).toNat)
    case atStart => exact ⟨0, by omega, rfl, allTo_zero _ _⟩
    case round =>
      obtain ⟨k, hk, rfl, ha⟩ := hrel
      by_cases hlt : k < xs.length
      · obtain ⟨ad, rfl, hbl, hcell⟩ := hR.at_ hlt
        have hc1 := hcell k hlt
        clear hR hcell
        rcases Bool.eq_false_or_eq_true (inB xs[k] 0 (m - 1)) with hv | hv
        · go_wp2_with (go_at_call 63; refine (l1In_any _ _ _ _).mono ?_; rintro e w' ⟨rfl, rfl⟩)
          go_round
          case rel => exact ⟨k + 1, by omega, by go_num, allTo_step ha hlt (restB_in.symm.trans hv)⟩
          case measure => simp [intOf]; omega
        · go_wp2_with (go_at_call 63; refine (l1In_any _ _ _ _).mono ?_; rintro e w' ⟨rfl, rfl⟩)
          go_ret
          exact ⟨ret_bool (restsOk_no hlt (restB_in.symm.trans hv)).symm, Hb.out⟩
      · obtain rfl : k = xs.length := by omega
        have E := Lib.hid (restsOk_end hacc ha)
        have B0 := Blk.new w 24 #[.int .i64 o, .int .i64 m]
        go_wp2_with fail
        refine (specIsAccumulator_any _ _ _).mono ?_
        rintro e w1 ⟨rfl, h1⟩
        have B1 := B0.past h1
        have c0 := B1.cell 0
        simp at c0
        clear B0 B1
        go_wp2_with fail
        go_ret
        exact ⟨ret_bool E.out.symm, thenB Hb.out h1⟩
  · go_enter Try.func20, Try.ntmps20
    go_wp2
    go_loop [9] (fun i => ∃ k : Nat, k ≤ xs.length ∧ i = .int .i64 k) (fun i => xs.length - (intOf i).toNat)
    case atStart => exact ⟨0, by omega, rfl⟩
    case round =>
      obtain ⟨k, hk, rfl⟩ := hrel
      by_cases hlt : k < xs.length
      · obtain ⟨ad, rfl, hbl, hcell⟩ := hR.at_ hlt
        have hc1 := hcell k hlt
        clear hR hcell
        go_wp2_with (go_at_call 63; refine (l1In_any _ _ _ _).mono ?_; rintro e w' ⟨rfl, rfl⟩)
        · go_ret
          exact ⟨ret_bool (restsOk_noAcc hacc).symm, Hb.out⟩
        · go_round
          case rel => exact ⟨k + 1, by omega, by go_num⟩
          case measure => simp [intOf]; omega
      · obtain rfl : k = xs.length := by omega
        go_wp2_with fail
        refine (specIsAccumulator_any _ _ _).mono ?_
        rintro e w1 ⟨rfl, h1⟩
        go_wp2_with fail
        go_ret
        exact ⟨ret_bool (restsOk_noAcc hacc).symm, thenB Hb.out h1⟩
set_option maxHeartbeats 400000 in
theorem implIsRests_any (o m : Int) (A : Option Addr) (c : Nat) (xs : List Int) (w : World) (hr : Rd w w.heap.size A xs) (hn : xs.length ≤ 9223372036854775807) :
    Calls Try.prog 60 #[.agg #[.int .i64 o, .int .i64 m], .slice A xs.length c] w fun e w' => e = .returned (.bool (restsOk o m xs)) ∧ Below w.heap.size w w' := by
  have hb0 : Below w.heap.size w (w.alloc (.cells #[.int .i64 o, .int .i64 m] 24)) := (Below.refl _ _).alloc (Nat.le_refl _) _
  have hR := hr.past hb0
  have B0 := Blk.new w 24 #[.int .i64 o, .int .i64 m]
  have Hb := Lib.hid hb0
  clear hb0 hr
  rcases Bool.eq_false_or_eq_true (accOk o m) with hacc | hacc
  · rcases Bool.eq_false_or_eq_true ((xs.length : Int) == o) with hl | hl
    · have E := Lib.hid (restsOk_all hacc hl)
      go_enter Try.func60, Try.ntmps60
      go_wp2_with fail
      refine (implIsAccumulator_any _ _ _).mono ?_
      rintro e w1 ⟨rfl, h1⟩
      have B1 := B0.past h1
      have R1 := hR.past h1
      have c0 := B1.cell 0
      have c1 := B1.cell 1
      simp at c0 c1
      clear B0 B1 hR
      go_wp2_with fail
      refine (allRests_any _ _ _ _ _ _ R1 hn).mono ?_
      rintro e w2 ⟨rfl, h2⟩
      go_wp2_with fail
      go_ret
      exact ⟨ret_bool E.out.symm, thenB (thenB Hb.out h1) h2⟩
    · have E := Lib.hid (restsOk_noLen (m := m) hl)
      go_enter Try.func60, Try.ntmps60
      go_wp2_with fail
      refine (implIsAccumulator_any _ _ _).mono ?_
      rintro e w1 ⟨rfl, h1⟩
      have B1 := B0.past h1
      have c0 := B1.cell 0
      have c1 := B1.cell 1
      simp at c0 c1
      clear B0 B1 hR
      go_wp2_with fail
      go_ret
      exact ⟨ret_bool E.out.symm, thenB Hb.out h1⟩
  · go_enter Try.func60, Try.ntmps60
    go_wp2_with fail
    refine (implIsAccumulator_any _ _ _).mono ?_
    rintro e w1 ⟨rfl, h1⟩
    clear B0 hR
    go_wp2_with fail
    go_ret
    exact ⟨ret_bool (restsOk_noAcc hacc).symm, thenB Hb.out h1⟩
end Go.Proofs.Yteabibkbmigpaaa
