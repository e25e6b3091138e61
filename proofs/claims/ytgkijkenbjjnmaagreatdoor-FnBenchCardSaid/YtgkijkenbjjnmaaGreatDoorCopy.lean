import Derived.Test.YtgkijkenbjjnmaaGreatDoorClone
import Derived.Test.YtgkijkenbjjnmaaGreatDoorPDiff
import Derived.Test.YtgkijkenbjjnmaaGreatDoorBase
import Derived.Test.YtgkijkenbjjnmaaGreatDoorMat
import Derived.Test.YtgkijkenbjjnmaaGreatDoorPComb
import Derived.Deep.RegionLaw
import Derived.Deep.AppendLies
import Derived.Laws.BitsAllLaws
import Derived.Laws.BitsLemmas
/- Contracts of slices.Equal, l3Equal and l1Copy. -/
namespace Go.Proofs.YtgkijkenbjjnmaaGreatDoor
open Go.RowKit
set_option linter.unusedVariables false
set_option linter.unusedSimpArgs false
theorem l1Copy_any (A : Option Addr) (c : Nat) (xs : List Int) (w : World) (hr : Rd w w.heap.size A xs) (hn : xs.length ≤ 1099511627776) :
    Calls Tryz.prog 59 #[.slice A xs.length c] w (RetSl w xs) := by
  have hb0 : Below w.heap.size w (w.alloc (.cells #[] 3)) := (Below.refl _ _).alloc (Nat.le_refl _) _
  have hR := hr.below hb0
  go_enter Tryz.func59, Tryz.ntmps59
  go_wp2_with (at_builtin; refine app_list rfl (.tmp 3) (.tmp 4) rfl w.heap.size _ _ 0 [] rfl rfl (own_empty w _ (Nat.le_refl _)) w.heap.size A c xs rfl hR (by omega) (by simp) ?_)
  intro A1 c1 w1 hown1 hw1 hm1
  go_wp2
  go_ret
  exact ⟨A1, c1, by simp, hown1, hb0.trans (below_wrote hw1 (by simp) (own_lo (own_empty w _ (Nat.le_refl _))))⟩
end Go.Proofs.YtgkijkenbjjnmaaGreatDoor

/- Contracts of the program's differences and of the two DifferenceCoefs. -/
namespace Go.Proofs.YtgkijkenbjjnmaaGreatDoor
open Go.RowKit
set_option linter.unusedVariables false
set_option linter.unusedSimpArgs false
set_option maxHeartbeats 1000000 in
theorem differences_any (A : Option Addr) (c : Nat) (xs : List Int) (k : Nat) (w : World) (hr : Rd w w.heap.size A xs) (hn : xs.length ≤ 1099511627776) (hk : k ≤ 6) (hx : Hid (∀ x ∈ xs, -1099511627776 ≤ x ∧ x ≤ 1099511627776)) :
    Calls Tryz.prog 135 #[.slice A xs.length c, .int .i64 k] w (RetSl w (diffN xs k)) := by
  go_enter Tryz.func135, Tryz.ntmps135
  go_wp2_with fail
  refine (clone_any _ _ _ _ hr hn).mono ?_; rintro e w1 ⟨A1, c1, rfl, O1, h1⟩
  clear hr
  go_wp2_with fail
  go_loopw [10] (fun i wr => ∃ j : Nat, j ≤ k ∧ i = .int .i64 j ∧ Own wr w.heap.size A1 c1 (diffN xs j) ∧ Below w.heap.size w wr) (fun i _ => k - (intOf i).toNat)
  case atStart => exact ⟨0, by omega, rfl, O1, h1⟩
  case round =>
    clear O1 h1
    obtain ⟨j, hj, rfl, O2, h2⟩ := hrel
    by_cases hlt : j < k
    · have hb := Lib.hid (diffN_small hx.out j (by omega))
      have hl := Lib.hid (diffN_length xs j)
      obtain ⟨D, hD⟩ : ∃ D, D = diffN xs j := ⟨_, rfl⟩
      rw [← hD] at hb hl O2
      have HD := Lib.hid hD
      clear hD
      have hl1 : xs.length ≤ D.length := by have := hl.out; omega
      have hl2 : D.length ≤ xs.length := by have := hl.out; omega
      obtain ⟨wo, hwo⟩ : ∃ wo : World, wo = wr := ⟨_, rfl⟩
      subst hwo
      go_wp2_with fail
      go_loopw [6] (fun i wr => ∃ (t : Nat) (ys : List Int), t ≤ xs.length ∧ i = .int .i64 (t - 1) ∧ Hid (DiffTo D ys t) ∧ Hid (Own wr w.heap.size A1 c1 ys) ∧ Below w.heap.size w wr) (fun i _ => (intOf i).toNat)
      case atStart => exact ⟨xs.length, D, by omega, rfl, by rw [← hl.out]; exact diffTo_start D, O2, h2⟩
      case round =>
        clear O2 h2
        obtain ⟨t, ys, ht, rfl, hT, hO, hB⟩ := hrel
        by_cases h2 : 2 ≤ t
        · obtain ⟨i, hi1, hi2⟩ : ∃ i : Nat, ((t : Int) - 1) = i + 1 ∧ t = i + 2 := ⟨t - 2, by omega, by omega⟩
          subst hi2
          rw [hi1]
          clear hi1
          have hly : i + 1 < ys.length := by have := hT.out.1; omega
          have hly2 : i < ys.length := by omega
          obtain ⟨g, rfl, hg, _⟩ := own_head hO.out hly
          have hc1 := own_cell hO.out hly
          have hc2 := own_cell hO.out (j := i) (by omega)
          have hf1 := own_frozen hO.out (i + 1)
          have hbd := fun u (hu : u < D.length) => hb.out _ (List.getElem_mem hu)
          have b1 := hbd (i + 1) (by omega)
          have b2 := hbd i (by omega)
          rw [← diffTo_at hT.out (u := i + 1) (by omega) hly (by omega)] at b1
          rw [← diffTo_at hT.out (u := i) (by omega) (by omega) (by omega)] at b2
          clear hbd
          go_wp2
          go_region
          go_wp2
          go_roundw
          case rel => exact ⟨i + 1, ys.set (i + 1) (ys[i + 1] - ys[i]), by omega, by go_num, diffTo_step hT.out hly, own_set hO.out _ _, (hB.setCell (by simpa using hg) _).drew⟩
          case measure => simp [intOf]
        · have e := Lib.hid (diffTo_end hT.out (by omega))
          go_wp2
          go_roundw
          case rel => exact ⟨j + 1, by omega, by go_num, by rw [diffN, ← HD.out, ← e.out]; exact hO.out, hB⟩
          case measure => simp [intOf]; omega
    · obtain rfl : j = k := by omega
      go_wp2
      go_ret
      exact ⟨A1, c1, by rw [diffN_length]; rfl, O2, h2⟩
def coefs (k : Nat) : List Int := diffN (1 :: List.replicate k 0) k
theorem coefs_length (k : Nat) : (coefs k).length = k + 1 := by simp [coefs, diffN_length]
def coefsI (k : Int) : List Int := if inB k 0 6 then coefs k.toNat else []
theorem coefsI_yes (k : Nat) (hk : k ≤ 6) : coefsI k = coefs k := by simp [coefsI, inB_true (show (0 : Int) ≤ k by omega) (show (k : Int) ≤ 6 by omega)]
theorem coefsI_no {k : Int} (h : inB k 0 6 = false) : coefsI k = [] := by simp [coefsI, h]
theorem one_bd (k : Nat) : ∀ x ∈ (1 :: List.replicate k 0 : List Int), -1099511627776 ≤ x ∧ x ≤ 1099511627776 := by
  intro x hx
  simp only [List.mem_cons, List.mem_replicate] at hx
  omega
theorem made_one (n : Nat) : ((madeCells #[.int .i64 0] (n + 1)).setIfInBounds 0 (.int .i64 1)).toList = ints (1 :: List.replicate n 0) := by
  rw [Array.toList_setIfInBounds, toList_madeCells_one, List.replicate_succ]
  simp [ints]
theorem made_head (w : World) (n : Nat) (hn : n ≤ 1000) : (w.alloc (.cells (madeCells #[.int .i64 0] (n + 1)) 3)).cell? ⟨w.heap.size, 0, none⟩ = some (.int .i64 0) := by
  have O1 := own_cell (own_made (B := 0) w (n + 1) (by omega) (by simp only [maxLen]; omega)) (j := 0) (by simp)
  simpa [List.replicate_succ] using O1
theorem hide {p : Prop} (h : p) : Hid p := h
theorem unhide {p : Prop} (h : Hid p) : p := h
theorem implDifferenceCoefs_any (k : Int) (w : World) :
    Calls Tryz.prog 101 #[.int .i64 k] w (RetSl w (coefsI k)) := by
  rcases Bool.eq_false_or_eq_true (inB k 0 6) with h | h
  · obtain ⟨h1, h2⟩ := inB_of h
    obtain ⟨n, rfl⟩ : ∃ n : Nat, k = n := ⟨k.toNat, by omega⟩
    rw [coefsI_yes n (by omega)]
    have hmk := make_ints (n + 1) (by omega)
    rw [show ((n + 1 : Nat) : Int) = (n : Int) + 1 by omega] at hmk
    have hc0 : (w.alloc (.cells (madeCells #[.int .i64 0] (n + 1)) 3)).cell? ⟨w.heap.size, 0, none⟩ = some (.int .i64 0) := made_head w n (by omega)
    have O1 : Own (w.alloc (.cells ((madeCells #[.int .i64 0] (n + 1)).setIfInBounds 0 (.int .i64 1)) 3)) w.heap.size (some ⟨w.heap.size, 0, none⟩) (1 :: List.replicate n 0 : List Int).length (1 :: List.replicate n 0) := own_cells w _ (Nat.le_refl _) (made_one n) (by simp only [List.length_cons, List.length_replicate, maxLen]; omega)
    have hb0 : Below w.heap.size w (w.alloc (.cells ((madeCells #[.int .i64 0] (n + 1)).setIfInBounds 0 (.int .i64 1)) 3)) := (Below.refl _ _).alloc (Nat.le_refl _) _
    have hcall := differences_any _ (n + 1) _ n _ (own_rd O1) (by simp; omega) (by omega) (one_bd n)
    rw [show (1 :: List.replicate n 0 : List Int).length = n + 1 by simp] at hcall
    have Hc := hide hcall
    clear hcall O1
    go_enter Tryz.func101, Tryz.ntmps101
    go_wp2_with (go_at_call 134; refine (isOrder_any _ _).mono ?_; rintro e w' ⟨rfl, rfl⟩)
    refine (unhide Hc).mono ?_
    rintro e w1 ⟨A1, c1, rfl, O1, h1⟩
    go_wp2
    go_ret
    exact ⟨A1, c1, rfl, own_mono O1 (by simp), thenB hb0 h1⟩
  · rw [coefsI_no h]
    go_enter Tryz.func101, Tryz.ntmps101
    go_wp2_with (go_at_call 134; refine (isOrder_any _ _).mono ?_; rintro e w' ⟨rfl, rfl⟩)
    go_ret
    exact ⟨none, 0, rfl, own_nil _ _, Below.refl _ _⟩
set_option maxHeartbeats 1000000 in
theorem specDifferenceCoefs_any (k : Int) (w : World) :
    Calls Tryz.prog 86 #[.int .i64 k] w (RetSl w (coefsI k)) := by
  rcases Bool.eq_false_or_eq_true (inB k 0 6) with h | h
  · obtain ⟨o1, o2⟩ := inB_of h
    obtain ⟨n, rfl⟩ : ∃ n : Nat, k = n := ⟨k.toNat, by omega⟩
    rw [coefsI_yes n (by omega)]
    have hmk := make_ints (n + 1) (by omega)
    rw [show ((n + 1 : Nat) : Int) = (n : Int) + 1 by omega] at hmk
    have hc0 : (w.alloc (.cells (madeCells #[.int .i64 0] (n + 1)) 3)).cell? ⟨w.heap.size, 0, none⟩ = some (.int .i64 0) := made_head w n (by omega)
    have O1 : Own (w.alloc (.cells ((madeCells #[.int .i64 0] (n + 1)).setIfInBounds 0 (.int .i64 1)) 3)) w.heap.size (some ⟨w.heap.size, 0, none⟩) (1 :: List.replicate n 0 : List Int).length (1 :: List.replicate n 0) := own_cells w _ (Nat.le_refl _) (made_one n) (by simp only [List.length_cons, List.length_replicate, maxLen]; omega)
    have hb0 : Below w.heap.size w (w.alloc (.cells ((madeCells #[.int .i64 0] (n + 1)).setIfInBounds 0 (.int .i64 1)) 3)) := (Below.refl _ _).alloc (Nat.le_refl _) _
    rw [show (1 :: List.replicate n 0 : List Int).length = n + 1 by simp] at O1
    go_enter Tryz.func86, Tryz.ntmps86
    go_wp2_with (go_at_call 108; refine (l1In_any _ _ _ _).mono ?_; rintro e w' ⟨rfl, rfl⟩)
    go_loopw [4] (fun i wr => ∃ j : Nat, j ≤ n ∧ i = .int .i64 j ∧ Own wr w.heap.size (some ⟨w.heap.size, 0, none⟩) (n + 1) (diffN (1 :: List.replicate n 0) j) ∧ Below w.heap.size w wr) (fun i _ => n - (intOf i).toNat)
    case atStart => exact ⟨0, by omega, rfl, O1, hb0⟩
    case round =>
      clear O1 hb0 hc0
      obtain ⟨j, hj, rfl, O2, h2⟩ := hrel
      by_cases hlt : j < n
      · have hb := Lib.hid (diffN_small (one_bd n) j (by omega))
        have hl := Lib.hid (diffN_length (1 :: List.replicate n 0) j)
        rw [show (1 :: List.replicate n 0 : List Int).length = n + 1 by simp] at hl
        obtain ⟨D, hD⟩ : ∃ D, D = diffN (1 :: List.replicate n 0) j := ⟨_, rfl⟩
        rw [← hD] at hb hl O2
        have HD := Lib.hid hD
        clear hD
        have hl1 : n + 1 ≤ D.length := by have := hl.out; omega
        have hl2 : D.length ≤ n + 1 := by have := hl.out; omega
        obtain ⟨wo, hwo⟩ : ∃ wo : World, wo = wr := ⟨_, rfl⟩
        subst hwo
        go_wp2_with fail
        go_loopw [5] (fun i wr => ∃ (t : Nat) (ys : List Int), t ≤ n ∧ i = .int .i64 t ∧ Hid (DiffTo D ys (t + 1)) ∧ Hid (Own wr w.heap.size (some ⟨w.heap.size, 0, none⟩) (n + 1) ys) ∧ Below w.heap.size w wr) (fun i _ => (intOf i).toNat)
        case atStart => exact ⟨n, D, by omega, rfl, by rw [← hl.out]; exact diffTo_start D, O2, h2⟩
        case round =>
          clear O2 h2
          obtain ⟨t, ys, ht, rfl, hT, hO, hB⟩ := hrel
          by_cases h2 : 1 ≤ t
          · obtain ⟨i, hi1, hi2⟩ : ∃ i : Nat, (t : Int) = i + 1 ∧ t = i + 1 := ⟨t - 1, by omega, by omega⟩
            subst hi2
            rw [hi1]
            clear hi1
            have hly : i + 1 < ys.length := by have := hT.out.1; omega
            have hly2 : i < ys.length := by omega
            have hc1 := own_cell hO.out hly
            have hc2 := own_cell hO.out (j := i) (by omega)
            have hf1 := own_frozen hO.out (i + 1)
            have hbd := fun u (hu : u < D.length) => hb.out _ (List.getElem_mem hu)
            have b1 := hbd (i + 1) (by omega)
            have b2 := hbd i (by omega)
            rw [← diffTo_at hT.out (u := i + 1) (by omega) hly (by omega)] at b1
            rw [← diffTo_at hT.out (u := i) (by omega) (by omega) (by omega)] at b2
            clear hbd
            go_wp2
            go_region
            go_wp2
            go_roundw
            case rel => exact ⟨i, ys.set (i + 1) (ys[i + 1] - ys[i]), by omega, by go_num, diffTo_step hT.out hly, own_set hO.out _ _, (hB.setCell (by simp) _).drew⟩
            case measure => simp [intOf]
          · have e := Lib.hid (diffTo_end hT.out (by omega))
            go_wp2
            go_roundw
            case rel => exact ⟨j + 1, by omega, by go_num, by rw [diffN, ← HD.out, ← e.out]; exact hO.out, hB⟩
            case measure => simp [intOf]; omega
      · obtain rfl : j = n := by omega
        go_wp2
        go_ret
        exact ⟨some ⟨w.heap.size, 0, none⟩, j + 1, by rw [coefs_length]; rfl, O2, h2⟩
  · rw [coefsI_no h]
    go_enter Tryz.func86, Tryz.ntmps86
    go_wp2_with (go_at_call 108; refine (l1In_any _ _ _ _).mono ?_; rintro e w' ⟨rfl, rfl⟩)
    go_ret
    exact ⟨none, 0, rfl, own_nil _ _, Below.refl _ _⟩
end Go.Proofs.YtgkijkenbjjnmaaGreatDoor

/- Contracts of the two CombineCarries and of l6Combine. -/
namespace Go.Proofs.YtgkijkenbjjnmaaGreatDoor
open Go.RowKit
set_option linter.unusedVariables false
set_option linter.unusedSimpArgs false
theorem combine_bad {rs : List Rw} {j : Nat} (hj : j < rs.length) (h : lenOk rs[0].xs.length rs[j].xs = false) (h0 : 0 < rs.length) : combine (lists rs) = ([], false) := by
  refine combine_noAll ?_
  rw [lists_getD h0, lists_all, List.all_eq_false]
  exact ⟨rs[j], List.getElem_mem hj, by simp [h]⟩
end Go.Proofs.YtgkijkenbjjnmaaGreatDoor

/- Contracts of l1Done, asSequence and of the two DifferencesOf. -/
namespace Go.Proofs.YtgkijkenbjjnmaaGreatDoor
open Go.RowKit
set_option linter.unusedVariables false
set_option linter.unusedSimpArgs false
def doneOf (xs : List Int) : List Int × Bool := if seqOk xs then (xs, true) else ([], false)
theorem doneOf_yes {xs : List Int} (h : seqOk xs = true) : doneOf xs = (xs, true) := by simp [doneOf, h]
theorem doneOf_no {xs : List Int} (h : seqOk xs = false) : doneOf xs = ([], false) := by simp [doneOf, h]
theorem doneOf_len (xs : List Int) : (doneOf xs).1.length ≤ 1000 := by
  unfold doneOf
  split
  · rename_i h; exact seqOk_len h
  · simp
def RetDone (w : World) (B : Nat) (x : List Int × Bool) (e : Ending) (w' : World) : Prop := ∃ A c, e = .returned (.tuple #[.slice A x.1.length c, .bool x.2]) ∧ Own w B A c x.1 ∧ w = w'
theorem l1Done_own (A : Option Addr) (B c : Nat) (xs : List Int) (w : World) (hO : Own w B A c xs) (hn : xs.length ≤ 9223372036854775807) :
    Calls Tryz.prog 141 #[.slice A xs.length c] w (RetDone w B (doneOf xs)) := by
  have R := own_rd hO
  have O := Lib.hid hO
  clear hO
  rcases Bool.eq_false_or_eq_true (seqOk xs) with h | h
  · rw [doneOf_yes h]
    go_enter Tryz.func141, Tryz.ntmps141
    go_wp2_with (go_at_call 58; refine (specIsSequence_any _ _ _ _ (by assumption) (by omega)).mono ?_; rintro e w' ⟨rfl, rfl⟩)
    go_ret2
    exact ⟨A, c, rfl, O.out, rfl⟩
  · rw [doneOf_no h]
    go_enter Tryz.func141, Tryz.ntmps141
    go_wp2_with (go_at_call 58; refine (specIsSequence_any _ _ _ _ (by assumption) (by omega)).mono ?_; rintro e w' ⟨rfl, rfl⟩)
    go_ret2
    exact ⟨none, 0, rfl, own_nil _ _, rfl⟩
theorem asSequence_own (A : Option Addr) (B c : Nat) (xs : List Int) (w : World) (hO : Own w B A c xs) (hn : xs.length ≤ 9223372036854775807) :
    Calls Tryz.prog 92 #[.slice A xs.length c] w (RetDone w B (doneOf xs)) := by
  have R := own_rd hO
  have O := Lib.hid hO
  clear hO
  rcases Bool.eq_false_or_eq_true (seqOk xs) with h | h
  · rw [doneOf_yes h]
    go_enter Tryz.func92, Tryz.ntmps92
    go_wp2_with (go_at_call 49; refine (implIsSequence_any _ _ _ _ (by assumption) (by omega)).mono ?_; rintro e w' ⟨rfl, rfl⟩)
    go_ret2
    exact ⟨A, c, rfl, O.out, rfl⟩
  · rw [doneOf_no h]
    go_enter Tryz.func92, Tryz.ntmps92
    go_wp2_with (go_at_call 49; refine (implIsSequence_any _ _ _ _ (by assumption) (by omega)).mono ?_; rintro e w' ⟨rfl, rfl⟩)
    go_ret2
    exact ⟨none, 0, rfl, own_nil _ _, rfl⟩
def diffOk (xs : List Int) (k : Int) : Bool := seqOk xs && inB k 0 6
def diffOf (xs : List Int) (k : Int) : List Int × Bool := if diffOk xs k then doneOf (diffN xs k.toNat) else ([], false)
theorem diffOf_yes {xs : List Int} {k : Nat} (h : seqOk xs = true) (hk : k ≤ 6) : diffOf xs k = doneOf (diffN xs k) := by
  have e : diffOk xs k = true := by simp only [diffOk, h, Bool.true_and]; exact inB_true (by omega) (by omega)
  simp [diffOf, e]
theorem diffOf_noSeq {xs : List Int} {k : Int} (h : seqOk xs = false) : diffOf xs k = ([], false) := by simp [diffOf, diffOk, h]
theorem diffOf_noOrder {xs : List Int} {k : Int} (h : inB k 0 6 = false) : diffOf xs k = ([], false) := by simp [diffOf, diffOk, h]
theorem diffOf_len (xs : List Int) (k : Int) : (diffOf xs k).1.length ≤ 1000 := by
  unfold diffOf
  split
  · exact doneOf_len _
  · simp
end Go.Proofs.YtgkijkenbjjnmaaGreatDoor

/- Contracts of l6Combine and of spec.CombineCarries. -/
namespace Go.Proofs.YtgkijkenbjjnmaaGreatDoor
open Go.RowKit
set_option linter.unusedVariables false
set_option linter.unusedSimpArgs false
theorem diffN_bits {xs : List Int} (h : ∀ x ∈ xs, 0 ≤ x ∧ x ≤ 1) : ∀ k, ∀ x ∈ diffN xs k, -(2 ^ k : Int) ≤ x ∧ x ≤ 2 ^ k
  | 0 => by
    intro x hx
    have := h x hx
    simp
    omega
  | k + 1 => by
    have ih := diffN_bits h k
    have hp : (0 : Int) < 2 ^ k := by have : (0 : Nat) < 2 ^ k := Nat.two_pow_pos k; have e : ((2 ^ k : Nat) : Int) = (2 : Int) ^ k := by simp
                                      omega
    have := diff1_bd (M := 2 ^ k) (by omega) ih
    intro x hx
    have := this x hx
    rw [Int.pow_succ]
    omega
theorem diffN_word {xs : List Int} (h : wordOk xs = true) (k : Nat) (hk : k ≤ 6) : seqOk (diffN xs k) = true := by
  refine seqOk_of (fun x hx => ?_) (by rw [diffN_length]; exact wordOk_len h)
  have h1 := diffN_bits (wordOk_mem h) k x hx
  have : k = 0 ∨ k = 1 ∨ k = 2 ∨ k = 3 ∨ k = 4 ∨ k = 5 ∨ k = 6 := by omega
  rcases this with rfl | rfl | rfl | rfl | rfl | rfl | rfl <;> simp at h1 <;> omega
theorem diffOf_word {xs : List Int} (h : wordOk xs = true) (k : Nat) (hk : k ≤ 6) : diffOf xs k = (diffN xs k, true) := by
  rw [diffOf_yes (wordOk_seqOk h) hk, doneOf_yes (diffN_word h k hk)]
theorem allOk {rs : List Rw} {n : Nat} (h : ∀ k, k < rs.length → lenOk n ((lists rs).getD k []) = true) : (lists rs).all (lenOk n) = true := by
  rw [List.all_eq_true]
  intro x hx
  obtain ⟨k, hk, rfl⟩ := List.getElem_of_mem hx
  have := h k (by rw [← lists_length rs]; exact hk)
  have e : (lists rs).getD k [] = (lists rs)[k] := by simp [hk]
  rwa [e] at this
end Go.Proofs.YtgkijkenbjjnmaaGreatDoor

/- Contracts of the two RunAccumulator and the two RestsOf. -/
namespace Go.Proofs.YtgkijkenbjjnmaaGreatDoor
open Go.RowKit
set_option linter.unusedVariables false
set_option linter.unusedSimpArgs false
def RetRun (w : World) (R : Run) (e : Ending) (w' : World) : Prop :=
  ∃ A c rs A1 c1 A2 c2, e = .returned (.tuple #[.slice A (rs : List Rw).length c, .slice A1 R.y.length c1, .slice A2 R.s.length c2, .bool R.ok]) ∧ lists rs = R.c ∧ OwnM w' w.heap.size A c rs ∧ Own w' w.heap.size A1 c1 R.y ∧ Own w' w.heap.size A2 c2 R.s ∧
    Apart A1 A2 ∧ (∀ r ∈ rs, Apart r.A A1) ∧ (∀ r ∈ rs, Apart r.A A2) ∧ Apart A A1 ∧ Apart A A2 ∧ Below w.heap.size w w'
theorem results_tmp4 {fn : Func} {t u v x : Tmp} (h : fn.results = #[.tmp t, .tmp u, .tmp v, .tmp x]) (tmps : Array Value) (P : Program) (w : World) :
    (results fn tmps).run P w = .ok (.tuple #[tmps.getD t undef, tmps.getD u undef, tmps.getD v undef, tmps.getD x undef]) w := by simp [results, h]
theorem ownM_nil (w : World) (B : Nat) : OwnM w B none 0 [] := ⟨World.ownsRow_nil w B _ _, fun r hr => (by cases hr), fun i j hi => absurd hi (by simp), fun r hr => by cases hr⟩
theorem retRun_no {w w' : World} (hb : Below w.heap.size w w') : RetRun w ⟨[], [], [], false⟩ (.returned (.tuple #[.slice none 0 0, .slice none 0 0, .slice none 0 0, .bool false])) w' :=
  ⟨none, 0, [], none, 0, none, 0, rfl, rfl, ownM_nil _ _, own_nil _ _, own_nil _ _, (fun a a' e => by cases e), (fun r hr => by cases hr), (fun r hr => by cases hr), (fun a a' e => by cases e), (fun a a' e => by cases e), hb⟩
theorem at_row {rs : List Rw} {xss : List (List Int)} {j : Nat} {xs : List Int} (h : lists rs = xss) (hx : xss[j]? = some xs) (hj : j < rs.length) : rs[j].xs = xs := by
  subst h
  simp only [lists, List.getElem?_map, List.getElem?_eq_getElem hj, Option.map_some] at hx
  exact Option.some.inj hx
theorem runOk_split {o m : Int} {s xs : List Int} (h : runOk o m s xs = false) : restsOk o m s = false ∨ (restsOk o m s = true ∧ xs.all (restB m) = false) ∨ (restsOk o m s = true ∧ xs.all (restB m) = true ∧ 1000 < xs.length) := by
  rcases Bool.eq_false_or_eq_true (restsOk o m s) with h1 | h1
  · rcases Bool.eq_false_or_eq_true (xs.all (restB m)) with h2 | h2
    · simp only [runOk, h1, h2, Bool.true_and, decide_eq_false_iff_not] at h
      exact .inr (.inr ⟨h1, h2, by omega⟩)
    · exact .inr (.inl ⟨h1, h2⟩)
  · exact .inl h1
end Go.Proofs.YtgkijkenbjjnmaaGreatDoor

/- Contracts of spec.RunAccumulator and of the two RestsOf. -/
namespace Go.Proofs.YtgkijkenbjjnmaaGreatDoor
open Go.RowKit
set_option linter.unusedVariables false
set_option linter.unusedSimpArgs false
def rests (o m : Int) (s xs : List Int) : List Int × Bool := if runOk o m s xs then (restL m s xs xs.length, true) else ([], false)
theorem rests_yes {o m : Int} {s xs : List Int} (h : runOk o m s xs = true) : rests o m s xs = (restL m s xs xs.length, true) := by simp [rests, h]
theorem rests_no {o m : Int} {s xs : List Int} (h : runOk o m s xs = false) : rests o m s xs = ([], false) := by simp [rests, h]
theorem restL_length (m : Int) (s xs : List Int) (n : Nat) : (restL m s xs n).length = n := lst_length _ _
theorem rests_len (o m : Int) (s xs : List Int) : (rests o m s xs).1.length ≤ 1000 := by
  rcases Bool.eq_false_or_eq_true (runOk o m s xs) with h | h
  · rw [rests_yes h]
    have := (runOk_parts h).2.2
    simp only [restL_length]; omega
  · rw [rests_no h]; simp
end Go.Proofs.YtgkijkenbjjnmaaGreatDoor

/- Plain laws of the wrap of a number to a width from 2 to 62 bits. No program. -/
namespace Go.Proofs.YtgkijkenbjjnmaaGreatDoor
open Go.RowKit
/-- v wrapped to k bits, signed. -/
def wrapW (v k : Int) : Int := if 2 ^ (k.toNat - 1) ≤ v % 2 ^ k.toNat then v % 2 ^ k.toNat - 2 ^ k.toNat else v % 2 ^ k.toNat

theorem two_pow_pos (n : Nat) : (0 : Int) < 2 ^ n := by
  have : (0 : Nat) < 2 ^ n := Nat.two_pow_pos n
  have h : ((2 ^ n : Nat) : Int) = (2 : Int) ^ n := by simp
  omega
theorem two_pow_le (n m : Nat) (h : n ≤ m) : (2 : Int) ^ n ≤ 2 ^ m := by
  have := Nat.pow_le_pow_right (show 0 < 2 by omega) h
  have h1 : ((2 ^ n : Nat) : Int) = (2 : Int) ^ n := by simp
  have h2 : ((2 ^ m : Nat) : Int) = (2 : Int) ^ m := by simp
  omega
theorem two_pow_62 (n : Nat) (h : n ≤ 62) : (2 : Int) ^ n ≤ 4611686018427387904 := by
  have := two_pow_le n 62 h
  have e : (2 : Int) ^ 62 = 4611686018427387904 := by decide
  omega
theorem two_pow_half (n : Nat) (h : 1 ≤ n) : (2 : Int) ^ n = 2 * 2 ^ (n - 1) := by
  obtain ⟨m, rfl⟩ : ∃ m, n = m + 1 := ⟨n - 1, by omega⟩
  rw [Int.pow_succ]; simp [Int.mul_comm]
theorem wrap64_pow (n : Nat) (h : n ≤ 62) : wrap64 (2 ^ n) = 2 ^ n := by
  have := two_pow_62 n h; have := two_pow_pos n
  unfold wrap64; omega
theorem wrap64_pow' (n : Nat) (h : n ≤ 62) : wrap64 (2 ^ n - 1) = 2 ^ n - 1 := by
  have := two_pow_62 n h; have := two_pow_pos n
  unfold wrap64; omega
theorem and_mask (v : Int) (n : Nat) (h : n ≤ 62) : bits .and .i64 v (2 ^ n - 1) = v % 2 ^ n := by
  have hp := two_pow_62 n h
  have hq := two_pow_pos n
  have e : ((2 ^ n : Nat) : Int) = (2 : Int) ^ n := by simp
  have e1 : (2 : Int) ^ n - 1 = ((2 ^ n - 1 : Nat) : Int) := by
    have : 0 < 2 ^ n := Nat.two_pow_pos n
    omega
  show IntKind.i64.wrap ((BitVec.ofInt 64 v &&& BitVec.ofInt 64 (2 ^ n - 1)).toNat : Int) = _
  have hm : 2 ^ n - 1 < 2 ^ 64 := by
    have : 2 ^ n ≤ 2 ^ 62 := Nat.pow_le_pow_right (by omega) h
    omega
  have e2 : (BitVec.ofInt 64 ((2 : Int) ^ n - 1)).toNat = 2 ^ n - 1 := by
    rw [e1, BitVec.ofInt_natCast, BitVec.toNat_ofNat]; exact Nat.mod_eq_of_lt hm
  rw [BitVec.toNat_and, e2, Nat.and_two_pow_sub_one_eq_mod]
  have e3 : ((BitVec.ofInt 64 v).toNat : Int) = v % 18446744073709551616 := by
    rw [BitVec.toNat_ofInt]
    have : (0 : Int) ≤ v % 18446744073709551616 := Int.emod_nonneg _ (by omega)
    omega
  have e4 : (((BitVec.ofInt 64 v).toNat % 2 ^ n : Nat) : Int) = v % 2 ^ n := by
    rw [Int.natCast_emod, e3, e]
    refine Int.emod_emod_of_dvd _ ⟨2 ^ (64 - n), ?_⟩
    rw [← Int.pow_add, show n + (64 - n) = 64 by omega]; decide
  rw [e4, IntKind.wrap_i64]
  have h1 : 0 ≤ v % 2 ^ n := Int.emod_nonneg _ (by omega)
  have h2 : v % 2 ^ n < 2 ^ n := Int.emod_lt_of_pos _ hq
  omega
theorem mask_is (v k : Int) (h2 : 2 ≤ k) (h3 : k ≤ 62) : bits .and .i64 v (wrap64 (wrap64 (2 ^ k.toNat) - 1)) = v % 2 ^ k.toNat := by
  rw [wrap64_pow _ (by omega), wrap64_pow' _ (by omega), and_mask _ _ (by omega)]
theorem wrapW_lo (v k : Int) (h2 : 2 ≤ k) : -(2 ^ (k.toNat - 1)) ≤ wrapW v k ∧ wrapW v k < 2 ^ (k.toNat - 1) := by
  unfold wrapW
  have h := two_pow_half k.toNat (by omega)
  have hq := two_pow_pos k.toNat
  have h1 : 0 ≤ v % 2 ^ k.toNat := Int.emod_nonneg _ (by omega)
  have h2 : v % 2 ^ k.toNat < 2 ^ k.toNat := Int.emod_lt_of_pos _ hq
  split <;> omega
end Go.Proofs.YtgkijkenbjjnmaaGreatDoor
