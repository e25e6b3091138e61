/- Contracts of the two ReversedOf. -/
import Derived.Test.YtkdlmddofnnngaaClone
import Derived.Test.YtkdlmddofnnngaaSeq
namespace Go.Proofs.Ytkdlmddofnnngaa
open Go.RowKit
set_option linter.unusedVariables false
set_option linter.unusedSimpArgs false
def revOf (xs : List Int) : List Int × Bool := if wordOk xs then (xs.reverse, true) else ([], false)
theorem revOf_yes {xs : List Int} (h : wordOk xs = true) : revOf xs = (xs.reverse, true) := by simp [revOf, h]
theorem revOf_no {xs : List Int} (h : wordOk xs = false) : revOf xs = ([], false) := by simp [revOf, h]
theorem revOf_len (xs : List Int) : (revOf xs).1.length ≤ 1000 := by
  unfold revOf
  split
  · rename_i h
    have := wordOk_len h
    simpa using this
  · simp
theorem implReversedOf_any (A : Option Addr) (c : Nat) (xs : List Int) (w : World) (hr : Rd w w.heap.size A xs) (hn : xs.length ≤ 1048576) :
    Calls Try.prog 38 #[.slice A xs.length c] w (RetLB w (revOf xs)) := by
  rcases Bool.eq_false_or_eq_true (wordOk xs) with h | h
  · rw [revOf_yes h]
    go_enter Try.func38, Try.ntmps38
    go_wp2_with fail
    refine (implIsWord_any _ _ _ _ hr (by omega)).mono ?_; rintro e w' ⟨rfl, rfl⟩
    go_wp2_with fail
    refine (clone_any _ _ _ _ hr (by omega)).mono ?_; rintro e w1 ⟨A1, c1, rfl, O1, h1⟩
    go_wp2_with fail
    refine (reverse_any _ _ _ _ _ O1 (by omega)).mono ?_; rintro e w2 ⟨rfl, O2, h2⟩
    go_wp2_with fail
    go_ret2
    exact ⟨A1, c1, by simp, O2, h1.trans (below_wrote h2 h1.size (own_lo O1))⟩
  · rw [revOf_no h]
    go_enter Try.func38, Try.ntmps38
    go_wp2_with fail
    refine (implIsWord_any _ _ _ _ hr (by omega)).mono ?_; rintro e w' ⟨rfl, rfl⟩
    go_wp2_with fail
    go_ret2
    exact ⟨none, 0, rfl, own_nil _ _, Below.refl _ _⟩
theorem specReversedOf_any (A : Option Addr) (c : Nat) (xs : List Int) (w : World) (hr : Rd w w.heap.size A xs) (hn : xs.length ≤ 1048576) :
    Calls Try.prog 37 #[.slice A xs.length c] w (RetLB w (revOf xs)) := by
  rcases Bool.eq_false_or_eq_true (wordOk xs) with h | h
  · rw [revOf_yes h]
    go_enter Try.func37, Try.ntmps37
    go_wp2_with (go_at_call 58; refine (specIsWord_any _ _ _ _ hr (by omega)).mono ?_; rintro e w' ⟨rfl, rfl⟩)
    go_loopw [4, 5] (fun q i wr => ∃ (k : Nat) (Aq : Option Addr) (cq : Nat), k ≤ xs.length ∧ i = .int .i64 (xs.length - 1 - k) ∧ q = .slice Aq k cq ∧ Own wr w.heap.size Aq cq (xs.reverse.take k) ∧ Below w.heap.size w wr) (fun _ i _ => (intOf i + 1).toNat)
    case atStart => exact ⟨0, _, 0, by omega, by simp, rfl, own_empty w _ (Nat.le_refl _), (Below.refl _ _).alloc (Nat.le_refl _) _⟩
    case round =>
      obtain ⟨k, Aq, cq, hk, rfl, rfl, hown, hb⟩ := hrel
      by_cases hlt : k < xs.length
      · obtain ⟨j, hj1, hj2⟩ : ∃ j : Nat, ((xs.length : Int) - 1 - k) = j ∧ j + 1 + k = xs.length := ⟨xs.length - 1 - k, by omega, by omega⟩
        have hj : j < xs.length := by omega
        obtain ⟨ad, rfl, hbl, hcell⟩ := hr.at_ hj
        have hc1 : wr.cell? (ad.add j) = some (.int .i64 (xs.getD j 0)) := (hb.cell (by rw [block_add]; exact hbl)).trans (hcell _ hj)
        clear hr hcell
        have hv := Lib.hid (show xs.reverse[k]'(by simpa using hlt) = xs[j] by rw [List.getElem_reverse]; congr 1; omega)
        rw [hj1]
        have Hj := Lib.hid hj2
        clear hj1 hj2
        go_wp2_with (at_builtin; refine app_take rfl (.tmp 17) (.tmp 22) rfl w.heap.size Aq cq k xs.reverse _ (by simpa using hlt) ?_ rfl hown rfl (by omega) hb.size ?_)
        · exact hv.out
        intro A1 c1 w1 hown1 hw1 hm1
        go_wp2
        go_roundw
        case rel => exact ⟨k + 1, A1, c1, by omega, by have := Hj.out; go_num, rfl, hown1, below_app hb hw1 hown hb.size⟩
        case measure => simp [intOf]
      · obtain rfl : k = xs.length := by omega
        have ej : ((xs.length : Int) - 1 - xs.length) = -1 := by omega
        rw [ej]
        clear ej
        go_wp2
        go_ret2
        rw [List.take_of_length_le (by simp)] at hown
        exact ⟨Aq, cq, by simp, hown, hb⟩
  · rw [revOf_no h]
    go_enter Try.func37, Try.ntmps37
    go_wp2_with fail
    refine (specIsWord_any _ _ _ _ hr (by omega)).mono ?_; rintro e w' ⟨rfl, rfl⟩
    go_wp2_with fail
    go_ret2
    exact ⟨none, 0, rfl, own_nil _ _, Below.refl _ _⟩
end Go.Proofs.Ytkdlmddofnnngaa
