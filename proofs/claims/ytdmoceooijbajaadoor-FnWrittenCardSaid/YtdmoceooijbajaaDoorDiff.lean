/- Contracts of the program's differences and of the two DifferenceCoefs. -/
import Derived.Test.YtdmoceooijbajaaDoorClone
import Derived.Test.YtdmoceooijbajaaDoorPDiff
import Derived.Test.YtdmoceooijbajaaDoorBase
namespace Go.Proofs.YtdmoceooijbajaaDoor
open Go.RowKit
set_option linter.unusedVariables false
set_option linter.unusedSimpArgs false
def coefs (k : Nat) : List Int := diffN (1 :: List.replicate k 0) k
theorem coefs_length (k : Nat) : (coefs k).length = k + 1 := by simp [coefs, diffN_length]
def coefsI (k : Int) : List Int := if inB k 0 6 then coefs k.toNat else []
theorem coefsI_yes (k : Nat) (hk : k ≤ 6) : coefsI k = coefs k := by simp [coefsI, inB_true (show (0 : Int) ≤ k by omega) (show (k : Int) ≤ 6 by omega)]
theorem coefsI_no {k : Int} (h : inB k 0 6 = false) : coefsI k = [] := by simp [coefsI, h]
theorem one_bd (k : Nat) : ∀ x ∈ (1 :: List.replicate k 0 : List Int), -1099511627776 ≤ x ∧ x ≤ 1099511627776 := by
  intro x hx
  simp only [List.mem_cons, List.mem_replicate] at hx
  omega
theorem made_one (n : Nat) : ((madeCells #[.int .i64 0] (n + 1)).setIfInBounds 0 (.int .i64 1)).toList = ints (1 :: List.replicate n 0) := by
  rw [Array.toList_setIfInBounds, toList_madeCells_one, List.replicate_succ]
  simp [ints]
theorem made_head (w : World) (n : Nat) (hn : n ≤ 1000) : (w.alloc (.cells (madeCells #[.int .i64 0] (n + 1)) 3)).cell? ⟨w.heap.size, 0, none⟩ = some (.int .i64 0) := by
  have O1 := own_cell (own_made (B := 0) w (n + 1) (by omega) (by simp only [maxLen]; omega)) (j := 0) (by simp)
  simpa [List.replicate_succ] using O1
theorem hide {p : Prop} (h : p) : Hid p := h
theorem unhide {p : Prop} (h : Hid p) : p := h
set_option maxHeartbeats 1000000 in
theorem specDifferenceCoefs_any (k : Int) (w : World) :
    Calls Tryd.prog 51 #[.int .i64 k] w (RetSl w (coefsI k)) := by
  rcases Bool.eq_false_or_eq_true (inB k 0 6) with h | h
  · obtain ⟨o1, o2⟩ := inB_of h
    obtain ⟨n, rfl⟩ : ∃ n : Nat, k = n := ⟨k.toNat, by omega⟩
    rw [coefsI_yes n (by omega)]
    have hmk := make_ints (n + 1) (by omega)
    rw [show ((n + 1 : Nat) : Int) = (n : Int) + 1 by omega] at hmk
    have hc0 : (w.alloc (.cells (madeCells #[.int .i64 0] (n + 1)) 3)).cell? ⟨w.heap.size, 0, none⟩ = some (.int .i64 0) := made_head w n (by omega)
    have O1 : Own (w.alloc (.cells ((madeCells #[.int .i64 0] (n + 1)).setIfInBounds 0 (.int .i64 1)) 3)) w.heap.size (some ⟨w.heap.size, 0, none⟩) (1 :: List.replicate n 0 : List Int).length (1 :: List.replicate n 0) := own_cells w _ (Nat.le_refl _) (made_one n) (by simp only [List.length_cons, List.length_replicate, maxLen]; omega)
    have hb0 : Below w.heap.size w (w.alloc (.cells ((madeCells #[.int .i64 0] (n + 1)).setIfInBounds 0 (.int .i64 1)) 3)) := (Below.refl _ _).alloc (Nat.le_refl _) _
    rw [show (1 :: List.replicate n 0 : List Int).length = n + 1 by simp] at O1
    go_enter Tryd.func51, Tryd.ntmps51
    go_wp2_with (go_at_call 45; refine (l1In_any _ _ _ _).mono ?_; rintro e w' ⟨rfl, rfl⟩)
    go_loopw [4] (fun i wr => ∃ j : Nat, j ≤ n ∧ i = .int .i64 j ∧ Own wr w.heap.size (some ⟨w.heap.size, 0, none⟩) (n + 1) (diffN (1 :: List.replicate n 0) j) ∧ Below w.heap.size w wr) (fun i _ => n - (intOf i).toNat)
    case atStart => exact ⟨0, by omega, rfl, O1, hb0⟩
    case round =>
      clear O1 hb0 hc0
      obtain ⟨j, hj, rfl, O2, h2⟩ := hrel
      by_cases hlt : j < n
      · have hb := Lib.hid (diffN_small (one_bd n) j (by omega))
        have hl := Lib.hid (diffN_length (1 :: List.replicate n 0) j)
        rw [show (1 :: List.replicate n 0 : List Int).length = n + 1 by simp] at hl
        obtain ⟨D, hD⟩ : ∃ D, D = diffN (1 :: List.replicate n 0) j := ⟨_, rfl⟩
        rw [← hD] at hb hl O2
        have HD := Lib.hid hD
        clear hD
        have hl1 : n + 1 ≤ D.length := by have := hl.out; omega
        have hl2 : D.length ≤ n + 1 := by have := hl.out; omega
        obtain ⟨wo, hwo⟩ : ∃ wo : World, wo = wr := ⟨_, rfl⟩
        subst hwo
        go_wp2_with fail
        go_loopw [5] (fun i wr => ∃ (t : Nat) (ys : List Int), t ≤ n ∧ i = .int .i64 t ∧ Hid (DiffTo D ys (t + 1)) ∧ Hid (Own wr w.heap.size (some ⟨w.heap.size, 0, none⟩) (n + 1) ys) ∧ Below w.heap.size w wr) (fun i _ => (intOf i).toNat)
        case atStart => exact ⟨n, D, by omega, rfl, by rw [← hl.out]; exact diffTo_start D, O2, h2⟩
        case round =>
          clear O2 h2
          obtain ⟨t, ys, ht, rfl, hT, hO, hB⟩ := hrel
          by_cases h2 : 1 ≤ t
          · obtain ⟨i, hi1, hi2⟩ : ∃ i : Nat, (t : Int) = i + 1 ∧ t = i + 1 := ⟨t - 1, by omega, by omega⟩
            subst hi2
            rw [hi1]
            clear hi1
            have hly : i + 1 < ys.length := by have := hT.out.1; omega
            have hly2 : i < ys.length := by omega
            have hc1 := own_cell hO.out hly
            have hc2 := own_cell hO.out (j := i) (by omega)
            have hf1 := own_frozen hO.out (i + 1)
            have hbd := fun u (hu : u < D.length) => hb.out _ (List.getElem_mem hu)
            have b1 := hbd (i + 1) (by omega)
            have b2 := hbd i (by omega)
            rw [← diffTo_at hT.out (u := i + 1) (by omega) hly (by omega)] at b1
            rw [← diffTo_at hT.out (u := i) (by omega) (by omega) (by omega)] at b2
            clear hbd
            go_wp2
            go_region
            go_wp2
            go_roundw
            case rel => exact ⟨i, ys.set (i + 1) (ys[i + 1] - ys[i]), by omega, by go_num, diffTo_step hT.out hly, own_set hO.out _ _, (hB.setCell (by simp) _).drew⟩
            case measure => simp [intOf]
          · have e := Lib.hid (diffTo_end hT.out (by omega))
            go_wp2
            go_roundw
            case rel => exact ⟨j + 1, by omega, by go_num, by rw [diffN, ← HD.out, ← e.out]; exact hO.out, hB⟩
            case measure => simp [intOf]; omega
      · obtain rfl : j = n := by omega
        go_wp2
        go_ret
        exact ⟨some ⟨w.heap.size, 0, none⟩, j + 1, by rw [coefs_length]; rfl, O2, h2⟩
  · rw [coefsI_no h]
    go_enter Tryd.func51, Tryd.ntmps51
    go_wp2_with (go_at_call 45; refine (l1In_any _ _ _ _).mono ?_; rintro e w' ⟨rfl, rfl⟩)
    go_ret
    exact ⟨none, 0, rfl, own_nil _ _, Below.refl _ _⟩
end Go.Proofs.YtdmoceooijbajaaDoor
