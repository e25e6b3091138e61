/- Contracts of ScaleSequence and AddSequences where their results are sequences, and of MechanicalWord where it gives a word. -/
import Derived.Test.YthpjpnilmpihaaaDiffOf
import Derived.Test.YthpjpnilmpihaaaMatRun
import Derived.Test.YthpjpnilmpihaaaPMech
import Derived.Test.YthpjpnilmpihaaaPComb
import Derived.Deep.RegionLaw
import Derived.IntWalk
namespace Go.Proofs.Ythpjpnilmpihaaa
open Go.RowKit
set_option linter.unusedVariables false
set_option linter.unusedSimpArgs false
def absI (v : Int) : Int := max v (-v)
theorem size_any (v : Int) (w : World) (h1 : -4611686018427387904 ≤ v) (h2 : v ≤ 4611686018427387904) : Calls Try.prog 65 #[.int .i64 v] w fun e w' => e = .returned (.int .i64 (absI v)) ∧ w = w' := by
  go_enter Try.func65, Try.ntmps65
  go_wp2
  all_goals (go_ret; first | exact ⟨ret_int (show v = absI v by unfold absI; omega), rfl⟩ | exact ⟨ret_int (show -v = absI v by unfold absI; omega), rfl⟩)
def RetY (ys : List Int) (w : World) (e : Ending) (w' : World) : Prop := ∃ A c, e = .returned (.tuple #[.slice A ys.length c, .bool true]) ∧ Own w' w.heap.size A c ys ∧ Below w.heap.size w w'
theorem abs_div {k v : Int} (hv : v ≠ 0) (h1 : -1099511627776 ≤ v * k) (h2 : v * k ≤ 1099511627776) : absI k ≤ 1099511627776 / absI v := by
  have e : absI k * absI v ≤ 1099511627776 := by
    unfold absI
    rcases Int.le_total 0 v with a | a <;> rcases Int.le_total 0 k with b | b
    · rw [show max k (-k) = k by omega, show max v (-v) = v by omega, Int.mul_comm]; exact h2
    · rw [show max k (-k) = -k by omega, show max v (-v) = v by omega, Int.neg_mul, Int.mul_comm]; omega
    · rw [show max k (-k) = k by omega, show max v (-v) = -v by omega, Int.mul_neg, Int.mul_comm]; omega
    · rw [show max k (-k) = -k by omega, show max v (-v) = -v by omega, Int.neg_mul_neg, Int.mul_comm]; exact h2
  exact (Int.le_ediv_iff_mul_le (by unfold absI; omega)).2 e
set_option maxHeartbeats 1000000 in
theorem implScale_yes (A : Option Addr) (c : Nat) (xs : List Int) (m : Int) (w : World) (hr : Rd w w.heap.size A xs) (hs : seqOk xs = true) (m1 : -1099511627776 ≤ m) (m2 : m ≤ 1099511627776) (hp : ∀ x ∈ xs, -1099511627776 ≤ x * m ∧ x * m ≤ 1099511627776) :
    Calls Try.prog 42 #[.slice A xs.length c, .int .i64 m] w (RetY (xs.map (· * m)) w) := by
  have hlx := seqOk_len hs
  have hsm : inB m (-1099511627776) 1099511627776 = true := inB_true m1 m2
  obtain ⟨R, hR⟩ : ∃ R, R = xs.map (· * m) := ⟨_, rfl⟩
  rw [← hR]
  have hRl : R.length = xs.length := by rw [hR]; simp
  have HRv : Hid (∀ k (h : k < R.length) (h' : k < xs.length), R[k] = xs[k] * m) := fun k h h' => by subst hR; simp
  have hRs : Hid (seqOk R = true) := by
    refine seqOk_of (fun x hx => ?_) (by rw [hRl]; exact hlx)
    subst hR
    simp only [List.mem_map] at hx
    obtain ⟨y, hy, rfl⟩ := hx
    exact hp y hy
  have HR := Lib.hid hRl
  have HP := Lib.hid hp
  clear hRl hR hp
  go_enter Try.func42, Try.ntmps42
  go_wp2_with (first | (go_at_call 45; refine (implIsSequence_any _ _ _ _ hr (by omega)).mono ?_; rintro e w' ⟨rfl, rfl⟩) | (go_at_call 64; refine (isSample_any _ _).mono ?_; rintro e w' ⟨rfl, rfl⟩))
  go_loopw [6, 20] (fun q i wr => ∃ (k : Nat) (Aq : Option Addr) (cq : Nat), k ≤ xs.length ∧ i = .int .i64 k ∧ q = .slice Aq k cq ∧ Own wr w.heap.size Aq cq (R.take k) ∧ Below w.heap.size w wr) (fun _ i _ => xs.length - (intOf i).toNat)
  case atStart => exact ⟨0, _, 0, by omega, rfl, rfl, own_empty w _ (Nat.le_refl _), (Below.refl _ _).alloc (Nat.le_refl _) _⟩
  case round =>
    obtain ⟨k, Aq, cq, hk, rfl, rfl, hown, hb⟩ := hrel
    by_cases hlt : k < xs.length
    · obtain ⟨ad, rfl, hbl, hcell⟩ := hr.at_ hlt
      have hc1 : wr.cell? (ad.add k) = some (.int .i64 (xs.getD k 0)) := (hb.cell (by rw [block_add]; exact hbl)).trans (hcell k hlt)
      rw [getD_at hlt] at hc1
      have hkR : k < R.length := by rw [HR.out]; exact hlt
      have hv := HRv.out k hkR hlt
      have b1 := seqOk_at hs hlt
      have b2 := HP.out _ (List.getElem_mem hlt)
      obtain ⟨v, hve⟩ : ∃ v, v = xs[k] := ⟨_, rfl⟩
      rw [← hve] at hc1 hv b1 b2
      have Hv := Lib.hid hv
      clear hr hcell hve hv
      by_cases hz : v = 0
      · have t0 : (v != 0) = false := by simp [hz]
        have Hz := Lib.hid hz
        clear hz
        go_wp2_with (at_builtin; refine app_take rfl (.tmp 34) (.tmp 38) rfl w.heap.size Aq cq k R _ hkR ?_ rfl hown rfl (by omega) hb.size ?_)
        · exact Hv.out
        intro A1 c1 w1 hown1 hw1 hm1
        go_wp2
        go_roundw
        case rel => exact ⟨k + 1, A1, c1, by omega, by go_num, rfl, hown1, below_app hb hw1 hown hb.size⟩
        case measure => simp [intOf]; omega
      · have t0 : (v != 0) = true := by simpa using hz
        have hdv := abs_div hz b2.1 b2.2
        have a1 : 0 < absI v := by unfold absI; omega
        have t1 : decide (1099511627776 / absI v < absI m) = false := by simp; omega
        clear hz
        go_wp2_with (first | (go_at_call 65; refine (size_any _ _ (by omega) (by omega)).mono ?_; rintro e w' ⟨rfl, rfl⟩) | (at_builtin; refine app_take rfl (.tmp 34) (.tmp 38) rfl w.heap.size Aq cq k R _ hkR ?_ rfl hown rfl (by omega) hb.size ?_))
        · exact Hv.out
        intro A1 c1 w1 hown1 hw1 hm1
        go_wp2
        go_roundw
        case rel => exact ⟨k + 1, A1, c1, by omega, by go_num, rfl, hown1, below_app hb hw1 hown hb.size⟩
        case measure => simp [intOf]; omega
    · obtain rfl : k = xs.length := by omega
      have hO := hown
      rw [List.take_of_length_le (by rw [HR.out]; omega)] at hO
      have hcall := asSequence_own Aq w.heap.size cq R wr hO (by rw [HR.out]; omega)
      rw [doneOf_yes hRs.out, HR.out] at hcall
      have Hc := Lib.hid hcall
      clear hcall hO hown
      go_wp2_with fail
      refine Hc.out.mono ?_
      rintro e w2 ⟨A2, c2, rfl, O2, rfl⟩
      go_wp2_with fail
      go_ret2
      exact ⟨A2, c2, rfl, O2, hb⟩
end Go.Proofs.Ythpjpnilmpihaaa
