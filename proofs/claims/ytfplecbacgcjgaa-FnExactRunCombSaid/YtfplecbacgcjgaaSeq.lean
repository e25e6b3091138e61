/- Contracts of the tests of sequences and words, of SumOf and PowerOf: each returns the same plain function. -/
import Derived.Test.YtfplecbacgcjgaaSmall
import Derived.Test.YtfplecbacgcjgaaSlices
namespace Go.Proofs.Ytfplecbacgcjgaa
open Go.RowKit
set_option linter.unusedVariables false
set_option linter.unusedSimpArgs false
def sampleB (v : Int) : Bool := inB v (-1099511627776) 1099511627776
def bitB (v : Int) : Bool := inB v 0 1
def seqOk (xs : List Int) : Bool := xs.all sampleB && decide (xs.length ≤ 1000)
def wordOk (xs : List Int) : Bool := xs.all bitB && decide (xs.length ≤ 1000)
/-- The first k are all so. -/
def AllTo (p : Int → Bool) (xs : List Int) (k : Nat) : Prop := (xs.take k).all p = true
theorem allTo_zero (p : Int → Bool) (xs : List Int) : AllTo p xs 0 := by simp [AllTo]
theorem allTo_step {p : Int → Bool} {xs : List Int} {k : Nat} (h : AllTo p xs k) (hk : k < xs.length) (e : p xs[k] = true) : AllTo p xs (k + 1) := by
  unfold AllTo at *
  rw [List.take_succ_eq_append_getElem hk, List.all_append, h]
  simp [e]
theorem allTo_end {p : Int → Bool} {xs : List Int} (h : AllTo p xs xs.length) : xs.all p = true := by
  unfold AllTo at h
  rwa [List.take_of_length_le (by omega)] at h
theorem all_no {p : Int → Bool} {xs : List Int} {k : Nat} (hk : k < xs.length) (e : p xs[k] = false) : xs.all p = false := by
  rw [List.all_eq_false]
  exact ⟨xs[k], List.getElem_mem hk, by simp [e]⟩
theorem all_at {p : Int → Bool} {xs : List Int} (h : xs.all p = true) {k : Nat} (hk : k < xs.length) : p xs[k] = true := List.all_eq_true.1 h _ (List.getElem_mem hk)
theorem seqOk_no {xs : List Int} {k : Nat} (hk : k < xs.length) (e : sampleB xs[k] = false) : seqOk xs = false := by simp [seqOk, all_no hk e]
theorem wordOk_no {xs : List Int} {k : Nat} (hk : k < xs.length) (e : bitB xs[k] = false) : wordOk xs = false := by simp [wordOk, all_no hk e]
theorem seqOk_end {xs : List Int} (h : AllTo sampleB xs xs.length) : seqOk xs = decide ((xs.length : Int) ≤ 1000) := by
  simp only [seqOk, allTo_end h, Bool.true_and, decide_eq_decide]; omega
theorem wordOk_end {xs : List Int} (h : AllTo bitB xs xs.length) : wordOk xs = decide ((xs.length : Int) ≤ 1000) := by
  simp only [wordOk, allTo_end h, Bool.true_and, decide_eq_decide]; omega
theorem seqOk_at {xs : List Int} (h : seqOk xs = true) {k : Nat} (hk : k < xs.length) : -1099511627776 ≤ xs[k] ∧ xs[k] ≤ 1099511627776 := by
  simp only [seqOk, Bool.and_eq_true] at h
  exact inB_of (all_at h.1 hk)
theorem wordOk_at {xs : List Int} (h : wordOk xs = true) {k : Nat} (hk : k < xs.length) : 0 ≤ xs[k] ∧ xs[k] ≤ 1 := by
  simp only [wordOk, Bool.and_eq_true] at h
  exact inB_of (all_at h.1 hk)
theorem seqOk_len {xs : List Int} (h : seqOk xs = true) : xs.length ≤ 1000 := by simp only [seqOk, Bool.and_eq_true] at h; simpa using h.2
theorem wordOk_len {xs : List Int} (h : wordOk xs = true) : xs.length ≤ 1000 := by simp only [wordOk, Bool.and_eq_true] at h; simpa using h.2
theorem seqOk_of {xs : List Int} (h : ∀ x ∈ xs, -1099511627776 ≤ x ∧ x ≤ 1099511627776) (hl : xs.length ≤ 1000) : seqOk xs = true := by
  simp only [seqOk, Bool.and_eq_true, List.all_eq_true]
  exact ⟨fun x hx => inB_true (h x hx).1 (h x hx).2, by simpa using hl⟩
theorem wordOk_of {xs : List Int} (h : ∀ x ∈ xs, 0 ≤ x ∧ x ≤ 1) (hl : xs.length ≤ 1000) : wordOk xs = true := by
  simp only [wordOk, Bool.and_eq_true, List.all_eq_true]
  exact ⟨fun x hx => inB_true (h x hx).1 (h x hx).2, by simpa using hl⟩
theorem seqOk_mem {xs : List Int} (h : seqOk xs = true) : ∀ x ∈ xs, -1099511627776 ≤ x ∧ x ≤ 1099511627776 := fun x hx => by
  simp only [seqOk, Bool.and_eq_true, List.all_eq_true] at h
  exact inB_of (h.1 x hx)
theorem wordOk_mem {xs : List Int} (h : wordOk xs = true) : ∀ x ∈ xs, 0 ≤ x ∧ x ≤ 1 := fun x hx => by
  simp only [wordOk, Bool.and_eq_true, List.all_eq_true] at h
  exact inB_of (h.1 x hx)
theorem wordOk_seqOk {xs : List Int} (h : wordOk xs = true) : seqOk xs = true := seqOk_of (fun x hx => by have := wordOk_mem h x hx; omega) (wordOk_len h)
theorem specIsSequence_any (A : Option Addr) (c : Nat) (xs : List Int) (w : World) (hr : Rd w w.heap.size A xs) (hn : xs.length ≤ 9223372036854775807) :
    Calls Try.prog 60 #[.slice A xs.length c] w fun e w' => e = .returned (.bool (seqOk xs)) ∧ w = w' := by
  go_enter Try.func60, Try.ntmps60
  go_wp2
  go_loop [7] (fun i => ∃ k : Nat, k ≤ xs.length ∧ i = .int .i64 k ∧ AllTo sampleB xs k) (fun i => xs.length - (intOf i).toNat)
  case atStart => exact ⟨0, by omega, rfl, allTo_zero _ _⟩
  case round =>
    obtain ⟨k, hk, rfl, ha⟩ := hrel
    by_cases hlt : k < xs.length
    · obtain ⟨ad, rfl, hbl, hcell⟩ := hr.at_ hlt
      have hc1 := hcell k hlt
      clear hr hcell
      rcases Bool.eq_false_or_eq_true (inB xs[k] (-1099511627776) 1099511627776) with hv | hv
      · go_wp2_with (go_at_call 83; refine (l1Sample_any _ _).mono ?_; rintro e w' ⟨rfl, rfl⟩)
        go_round
        case rel => exact ⟨k + 1, by omega, by go_num, allTo_step ha hlt hv⟩
        case measure => simp [intOf]; omega
      · go_wp2_with (go_at_call 83; refine (l1Sample_any _ _).mono ?_; rintro e w' ⟨rfl, rfl⟩)
        go_ret
        exact ⟨ret_bool (seqOk_no hlt hv).symm, rfl⟩
    · obtain rfl : k = xs.length := by omega
      have e := seqOk_end ha
      have E := Lib.hid e
      clear e
      go_wp2
      go_ret
      exact ⟨ret_bool E.out.symm, rfl⟩
theorem implIsSequence_any (A : Option Addr) (c : Nat) (xs : List Int) (w : World) (hr : Rd w w.heap.size A xs) (hn : xs.length ≤ 9223372036854775807) :
    Calls Try.prog 55 #[.slice A xs.length c] w fun e w' => e = .returned (.bool (seqOk xs)) ∧ w = w' := by
  go_enter Try.func55, Try.ntmps55
  go_wp2
  go_loop [7] (fun i => ∃ k : Nat, k ≤ xs.length ∧ i = .int .i64 k ∧ AllTo sampleB xs k) (fun i => xs.length - (intOf i).toNat)
  case atStart => exact ⟨0, by omega, rfl, allTo_zero _ _⟩
  case round =>
    obtain ⟨k, hk, rfl, ha⟩ := hrel
    by_cases hlt : k < xs.length
    · obtain ⟨ad, rfl, hbl, hcell⟩ := hr.at_ hlt
      have hc1 := hcell k hlt
      clear hr hcell
      rcases Bool.eq_false_or_eq_true (inB xs[k] (-1099511627776) 1099511627776) with hv | hv
      · go_wp2_with (go_at_call 81; refine (isSample_any _ _).mono ?_; rintro e w' ⟨rfl, rfl⟩)
        go_round
        case rel => exact ⟨k + 1, by omega, by go_num, allTo_step ha hlt hv⟩
        case measure => simp [intOf]; omega
      · go_wp2_with (go_at_call 81; refine (isSample_any _ _).mono ?_; rintro e w' ⟨rfl, rfl⟩)
        go_ret
        exact ⟨ret_bool (seqOk_no hlt hv).symm, rfl⟩
    · obtain rfl : k = xs.length := by omega
      have e := seqOk_end ha
      have E := Lib.hid e
      clear e
      go_wp2
      go_ret
      exact ⟨ret_bool E.out.symm, rfl⟩
end Go.Proofs.Ytfplecbacgcjgaa
