/- Contracts of slices.Equal, l3Equal and l1Copy. -/
import Derived.Test.YteabibkbmigpaaaClone
namespace Go.Proofs.Yteabibkbmigpaaa
open Go.RowKit
set_option linter.unusedVariables false
set_option linter.unusedSimpArgs false
set_option maxHeartbeats 400000 in
theorem slicesEqual_any (A A' : Option Addr) (c c' : Nat) (xs ys : List Int) (w : World) (hx : Rd w w.heap.size A xs) (hy : Rd w w.heap.size A' ys) (hn : xs.length ≤ 9223372036854775807) :
    Calls Try.prog 74 #[.slice A xs.length c, .slice A' ys.length c'] w fun e w' => e = .returned (.bool (eqB xs ys)) ∧ Below w.heap.size w w' := by
  by_cases hl : xs.length = ys.length
  · have hl1 : xs.length ≤ ys.length := by omega
    have hl2 : ys.length ≤ xs.length := by omega
    have hd : (((xs.length : Nat) : Int) != ((ys.length : Nat) : Int)) = false := by simp; omega
    have Hl := Lib.hid hl
    clear hl
    go_enter Try.func74, Try.ntmps74
    go_wp2
    go_loopw [13] (fun i wr => ∃ k : Nat, k ≤ xs.length ∧ i = .int .i64 k ∧ EqTo xs ys k ∧ Below w.heap.size w wr) (fun i _ => xs.length - (intOf i).toNat)
    case atStart => exact ⟨0, by omega, rfl, by simp [EqTo], Below.refl _ _⟩
    case round =>
      obtain ⟨k, hk, rfl, he, hb⟩ := hrel
      by_cases hlt : k < xs.length
      · obtain ⟨ad, rfl, hbl, hcell⟩ := hx.at_ hlt
        obtain ⟨ad', rfl, hbl', hcell'⟩ := hy.at_ (k := k) (by omega)
        have hc1 : wr.cell? (ad.add k) = some (.int .i64 (xs.getD k 0)) := (hb.cell (by rw [block_add]; exact hbl)).trans (hcell k hlt)
        have hc2 : wr.cell? (ad'.add k) = some (.int .i64 (ys.getD k 0)) := (hb.cell (by rw [block_add]; exact hbl')).trans (hcell' k (by omega))
        have hlt' : k < ys.length := by omega
        clear hx hy hcell hcell'
        go_wp2
        go_quiet (fail)
        go_wp2
        · go_ret
          have hne : (xs[k] != ys[k]) = true := by assumption
          exact ⟨ret_bool (eqB_ne_at hlt hlt' (by simpa using hne)).symm, below_drewN' hb _⟩
        · have heq : (xs[k] != ys[k]) = false := by assumption
          go_roundw
          case rel => exact ⟨k + 1, by omega, by go_num, eqTo_step he hlt hlt' (by simpa using heq), below_drewN' hb _⟩
          case measure => simp [intOf]; omega
      · go_wp2
        go_ret
        obtain rfl : k = xs.length := by omega
        exact ⟨ret_bool (eqTo_all he Hl.out).symm, hb⟩
  · have hd : (((xs.length : Nat) : Int) != ((ys.length : Nat) : Int)) = true := by simp; omega
    go_enter Try.func74, Try.ntmps74
    go_wp2
    go_ret
    exact ⟨ret_bool (eqB_ne_len hl).symm, Below.refl _ _⟩
set_option maxHeartbeats 400000 in
theorem l3Equal_any (A A' : Option Addr) (c c' : Nat) (xs ys : List Int) (w : World) (hx : Rd w w.heap.size A xs) (hy : Rd w w.heap.size A' ys) (hn : xs.length ≤ 9223372036854775807) :
    Calls Try.prog 73 #[.slice A xs.length c, .slice A' ys.length c'] w fun e w' => e = .returned (.bool (eqB xs ys)) ∧ Below w.heap.size w w' := by
  by_cases hl : xs.length = ys.length
  · have hl1 : xs.length ≤ ys.length := by omega
    have hl2 : ys.length ≤ xs.length := by omega
    have hd : (((xs.length : Nat) : Int) != ((ys.length : Nat) : Int)) = false := by simp; omega
    have Hl := Lib.hid hl
    clear hl
    go_enter Try.func73, Try.ntmps73
    go_wp2
    go_loopw [13] (fun i wr => ∃ k : Nat, k ≤ xs.length ∧ i = .int .i64 k ∧ EqTo xs ys k ∧ Below w.heap.size w wr) (fun i _ => xs.length - (intOf i).toNat)
    case atStart => exact ⟨0, by omega, rfl, by simp [EqTo], Below.refl _ _⟩
    case round =>
      obtain ⟨k, hk, rfl, he, hb⟩ := hrel
      by_cases hlt : k < xs.length
      · obtain ⟨ad, rfl, hbl, hcell⟩ := hx.at_ hlt
        obtain ⟨ad', rfl, hbl', hcell'⟩ := hy.at_ (k := k) (by omega)
        have hc1 : wr.cell? (ad.add k) = some (.int .i64 (xs.getD k 0)) := (hb.cell (by rw [block_add]; exact hbl)).trans (hcell k hlt)
        have hc2 : wr.cell? (ad'.add k) = some (.int .i64 (ys.getD k 0)) := (hb.cell (by rw [block_add]; exact hbl')).trans (hcell' k (by omega))
        have hlt' : k < ys.length := by omega
        clear hx hy hcell hcell'
        go_wp2
        go_quiet (fail)
        go_wp2
        · go_ret
          have hne : (xs[k] != ys[k]) = true := by assumption
          exact ⟨ret_bool (eqB_ne_at hlt hlt' (by simpa using hne)).symm, below_drewN' hb _⟩
        · have heq : (xs[k] != ys[k]) = false := by assumption
          go_roundw
          case rel => exact ⟨k + 1, by omega, by go_num, eqTo_step he hlt hlt' (by simpa using heq), below_drewN' hb _⟩
          case measure => simp [intOf]; omega
      · go_wp2
        go_ret
        obtain rfl : k = xs.length := by omega
        exact ⟨ret_bool (eqTo_all he Hl.out).symm, hb⟩
  · have hd : (((xs.length : Nat) : Int) != ((ys.length : Nat) : Int)) = true := by simp; omega
    go_enter Try.func73, Try.ntmps73
    go_wp2
    go_ret
    exact ⟨ret_bool (eqB_ne_len hl).symm, Below.refl _ _⟩
theorem l1Copy_any (A : Option Addr) (c : Nat) (xs : List Int) (w : World) (hr : Rd w w.heap.size A xs) (hn : xs.length ≤ 1099511627776) :
    Calls Try.prog 72 #[.slice A xs.length c] w (RetSl w xs) := by
  have hb0 : Below w.heap.size w (w.alloc (.cells #[] 3)) := (Below.refl _ _).alloc (Nat.le_refl _) _
  have hR := hr.below hb0
  go_enter Try.func72, Try.ntmps72
  go_wp2_with (at_builtin; refine app_list rfl (.tmp 3) (.tmp 4) rfl w.heap.size _ _ 0 [] rfl rfl (own_empty w _ (Nat.le_refl _)) w.heap.size A c xs rfl hR (by omega) (by simp) ?_)
  intro A1 c1 w1 hown1 hw1 hm1
  go_wp2
  go_ret
  exact ⟨A1, c1, by simp, hown1, hb0.trans (below_wrote hw1 (by simp) (own_lo (own_empty w _ (Nat.le_refl _))))⟩
end Go.Proofs.Yteabibkbmigpaaa
