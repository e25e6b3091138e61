/- Contracts of ComplementOf and InterleavedOf where they give words. -/
import Derived.Test.YthpjpnilmpihaaaSeq2
import Derived.Test.YthpjpnilmpihaaaPRun4
import Derived.Test.YthpjpnilmpihaaaPower
import Derived.IntWalk
namespace Go.Proofs.Ythpjpnilmpihaaa
open Go.RowKit
set_option linter.unusedVariables false
set_option linter.unusedSimpArgs false
def compL (xs : List Int) : List Int := xs.map fun x => 1 - x
theorem compL_length (xs : List Int) : (compL xs).length = xs.length := by simp [compL]
theorem compL_at {xs : List Int} {k : Nat} (h : k < (compL xs).length) (h' : k < xs.length) : (compL xs)[k] = 1 - xs[k] := by simp [compL]
theorem compL_word {xs : List Int} (h : wordOk xs = true) : wordOk (compL xs) = true := by
  refine wordOk_of (fun x hx => ?_) (by rw [compL_length]; exact wordOk_len h)
  simp only [compL, List.mem_map] at hx
  obtain ⟨y, hy, rfl⟩ := hx
  have := wordOk_mem h y hy
  omega
theorem compL_comp (xs : List Int) : compL (compL xs) = xs := by
  unfold compL; rw [List.map_map]
  conv => rhs; rw [← List.map_id xs]
  apply List.map_congr_left; intro x _; simp; omega
set_option maxHeartbeats 1000000 in
theorem implComp_yes (A : Option Addr) (c n : Nat) (xs : List Int) (w : World) (hr : Rd w w.heap.size A xs) (hn : xs.length = n) (hs : wordOk xs = true) :
    Calls Try.prog 32 #[.slice A n c] w (fun e w' => ∃ A c, e = .returned (.tuple #[.slice A n c, .bool true]) ∧ Own w' w.heap.size A c (compL xs) ∧ Below w.heap.size w w') := by
  subst hn
  have hlx := wordOk_len hs
  have HRl : Hid ((compL xs).length = xs.length) := compL_length xs
  have HRv : Hid (∀ k (h : k < (compL xs).length) (h' : k < xs.length), (compL xs)[k] = 1 - xs[k]) := fun k h h' => compL_at h h'
  obtain ⟨R, hR⟩ : ∃ R, R = compL xs := ⟨_, rfl⟩
  rw [← hR] at HRl HRv ⊢
  clear hR
  go_enter Try.func32, Try.ntmps32
  go_wp2_with fail
  refine (implIsWord_any _ _ _ _ hr (by omega)).mono ?_; rintro e w' ⟨rfl, rfl⟩
  go_wp2_with fail
  go_loopw [4, 13] (fun q i wr => ∃ (k : Nat) (Aq : Option Addr) (cq : Nat), k ≤ xs.length ∧ i = .int .i64 k ∧ q = .slice Aq k cq ∧ Own wr w.heap.size Aq cq (R.take k) ∧ Below w.heap.size w wr) (fun _ i _ => xs.length - (intOf i).toNat)
  case atStart => exact ⟨0, _, 0, by omega, rfl, rfl, own_empty w _ (Nat.le_refl _), (Below.refl _ _).alloc (Nat.le_refl _) _⟩
  case round =>
    obtain ⟨k, Aq, cq, hk, rfl, rfl, hown, hb⟩ := hrel
    by_cases hlt : k < xs.length
    · obtain ⟨ad, rfl, hbl, hcell⟩ := hr.at_ hlt
      have hc1 : wr.cell? (ad.add k) = some (.int .i64 (xs.getD k 0)) := (hb.cell (by rw [block_add]; exact hbl)).trans (hcell k hlt)
      rw [getD_at hlt] at hc1
      have hkR : k < R.length := by rw [HRl.out]; exact hlt
      have hv := HRv.out k hkR hlt
      have b1 := wordOk_mem hs _ (List.getElem_mem hlt)
      obtain ⟨v, hve⟩ : ∃ v, v = xs[k] := ⟨_, rfl⟩
      rw [← hve] at hc1 hv b1
      have Hv := Lib.hid hv
      clear hr hcell hve hv
      go_wp2_with (at_builtin; refine app_take rfl (.tmp 17) (.tmp 20) rfl w.heap.size Aq cq k R _ hkR ?_ rfl hown rfl (by omega) hb.size ?_)
      · exact Hv.out
      intro A1 c1 w1 hown1 hw1 hm1
      go_wp2
      go_roundw
      case rel => exact ⟨k + 1, A1, c1, by omega, by go_num, rfl, hown1, below_app hb hw1 hown hb.size⟩
      case measure => simp [intOf]; omega
    · obtain rfl : k = xs.length := by omega
      have hO := hown
      rw [List.take_of_length_le (by rw [HRl.out]; omega)] at hO
      go_wp2_with fail
      go_ret2
      exact ⟨Aq, cq, rfl, hO, hb⟩
def parL (xs : List Int) : List Int := lst xs.length fun k => sumTo (fun v => v) xs (k + 1) % 2
theorem parL_length (xs : List Int) : (parL xs).length = xs.length := lst_length _ _
theorem parL_word {xs : List Int} (h : wordOk xs = true) : wordOk (parL xs) = true := by
  refine wordOk_of (fun x hx => ?_) (by rw [parL_length]; exact wordOk_len h)
  obtain ⟨k, _, rfl⟩ := lst_mem hx
  omega
set_option maxHeartbeats 1000000 in
theorem implInter_yes (A : Option Addr) (c n : Nat) (xs : List Int) (w : World) (hr : Rd w w.heap.size A xs) (hn : xs.length = n) (hs : wordOk xs = true) :
    Calls Try.prog 27 #[.slice A n c] w (fun e w' => ∃ A c, e = .returned (.tuple #[.slice A n c, .bool true]) ∧ Own w' w.heap.size A c (parL xs) ∧ Below w.heap.size w w') := by
  subst hn
  have hlx := wordOk_len hs
  have HRl : Hid ((parL xs).length = xs.length) := parL_length xs
  have HRv : Hid (∀ k (h : k < (parL xs).length), (parL xs)[k] = sumTo (fun v => v) xs (k + 1) % 2) := fun k h => lst_get _ h
  obtain ⟨R, hR⟩ : ∃ R, R = parL xs := ⟨_, rfl⟩
  rw [← hR] at HRl HRv ⊢
  clear hR
  go_enter Try.func27, Try.ntmps27
  go_wp2_with fail
  refine (implIsWord_any _ _ _ _ hr (by omega)).mono ?_; rintro e w' ⟨rfl, rfl⟩
  go_wp2_with fail
  go_loopw [4, 5, 14] (fun q s i wr => ∃ (k : Nat) (Aq : Option Addr) (cq : Nat), k ≤ xs.length ∧ i = .int .i64 k ∧ s = .int .i64 (sumTo (fun v => v) xs k) ∧ q = .slice Aq k cq ∧ Own wr w.heap.size Aq cq (R.take k) ∧ Below w.heap.size w wr) (fun _ _ i _ => xs.length - (intOf i).toNat)
  case atStart => exact ⟨0, _, 0, by omega, rfl, by simp [sumTo_zero], rfl, own_empty w _ (Nat.le_refl _), (Below.refl _ _).alloc (Nat.le_refl _) _⟩
  case round =>
    obtain ⟨k, Aq, cq, hk, rfl, rfl, rfl, hown, hb⟩ := hrel
    by_cases hlt : k < xs.length
    · obtain ⟨ad, rfl, hbl, hcell⟩ := hr.at_ hlt
      have hc1 : wr.cell? (ad.add k) = some (.int .i64 (xs.getD k 0)) := (hb.cell (by rw [block_add]; exact hbl)).trans (hcell k hlt)
      rw [getD_at hlt] at hc1
      have hkR : k < R.length := by rw [HRl.out]; exact hlt
      have hv := HRv.out k hkR
      have hsn := sumTo_succ (fun v => v) xs hlt
      have b0 := sumTo_bd (fun v => v) xs 0 1 (fun x hx => wordOk_mem hs x hx) k hk
      have b1 := wordOk_mem hs _ (List.getElem_mem hlt)
      obtain ⟨v, hve⟩ : ∃ v, v = xs[k] := ⟨_, rfl⟩
      obtain ⟨t, ht⟩ : ∃ t, t = sumTo (fun v => v) xs k := ⟨_, rfl⟩
      have ee : sumTo (fun v => v) xs (k + 1) = t + v := by rw [hsn, ← ht, ← hve]
      rw [ee] at hv
      rw [← hve] at hc1 b1
      rw [← ht] at b0 ⊢
      have Hv := Lib.hid hv
      have EE := Lib.hid ee
      clear hr hcell hve hv hsn ht ee
      go_wp2_with (at_builtin; refine app_take rfl (.tmp 21) (.tmp 24) rfl w.heap.size Aq cq k R _ hkR ?_ rfl hown rfl (by omega) hb.size ?_)
      · exact Hv.out
      intro A1 c1 w1 hown1 hw1 hm1
      go_wp2
      go_roundw
      case rel => exact ⟨k + 1, A1, c1, by omega, by go_num, by rw [EE.out], rfl, hown1, below_app hb hw1 hown hb.size⟩
      case measure => simp [intOf]; omega
    · obtain rfl : k = xs.length := by omega
      have hO := hown
      rw [List.take_of_length_le (by rw [HRl.out]; omega)] at hO
      go_wp2_with fail
      go_ret2
      exact ⟨Aq, cq, rfl, hO, hb⟩
end Go.Proofs.Ythpjpnilmpihaaa
