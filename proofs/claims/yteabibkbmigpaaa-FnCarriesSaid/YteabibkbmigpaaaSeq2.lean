/- Contracts of ScaleSequence and AddSequences where their results are sequences, and of MechanicalWord where it gives a word. -/
import Derived.Test.YteabibkbmigpaaaDiffOf
import Derived.Test.YteabibkbmigpaaaMatRun
import Derived.Test.YteabibkbmigpaaaPMech
import Derived.Test.YteabibkbmigpaaaPComb
import Derived.Deep.RegionLaw
import Derived.IntWalk
namespace Go.Proofs.Yteabibkbmigpaaa
open Go.RowKit
set_option linter.unusedVariables false
set_option linter.unusedSimpArgs false
def absI (v : Int) : Int := max v (-v)
theorem size_any (v : Int) (w : World) (h1 : -4611686018427387904 ≤ v) (h2 : v ≤ 4611686018427387904) : Calls Try.prog 80 #[.int .i64 v] w fun e w' => e = .returned (.int .i64 (absI v)) ∧ w = w' := by
  go_enter Try.func80, Try.ntmps80
  go_wp2
  all_goals (go_ret; first | exact ⟨ret_int (show v = absI v by unfold absI; omega), rfl⟩ | exact ⟨ret_int (show -v = absI v by unfold absI; omega), rfl⟩)
def RetY (ys : List Int) (w : World) (e : Ending) (w' : World) : Prop := ∃ A c, e = .returned (.tuple #[.slice A ys.length c, .bool true]) ∧ Own w' w.heap.size A c ys ∧ Below w.heap.size w w'
theorem abs_div {k v : Int} (hv : v ≠ 0) (h1 : -1099511627776 ≤ v * k) (h2 : v * k ≤ 1099511627776) : absI k ≤ 1099511627776 / absI v := by
  have e : absI k * absI v ≤ 1099511627776 := by
    unfold absI
    rcases Int.le_total 0 v with a | a <;> rcases Int.le_total 0 k with b | b
    · rw [show max k (-k) = k by omega, show max v (-v) = v by omega, Int.mul_comm]; exact h2
    · rw [show max k (-k) = -k by omega, show max v (-v) = v by omega, Int.neg_mul, Int.mul_comm]; omega
    · rw [show max k (-k) = k by omega, show max v (-v) = -v by omega, Int.mul_neg, Int.mul_comm]; omega
    · rw [show max k (-k) = -k by omega, show max v (-v) = -v by omega, Int.neg_mul_neg, Int.mul_comm]; exact h2
  exact (Int.le_ediv_iff_mul_le (by unfold absI; omega)).2 e
set_option maxHeartbeats 1000000 in
theorem implScale_yes (A : Option Addr) (c : Nat) (xs : List Int) (m : Int) (w : World) (hr : Rd w w.heap.size A xs) (hs : seqOk xs = true) (m1 : -1099511627776 ≤ m) (m2 : m ≤ 1099511627776) (hp : ∀ x ∈ xs, -1099511627776 ≤ x * m ∧ x * m ≤ 1099511627776) :
    Calls Try.prog 45 #[.slice A xs.length c, .int .i64 m] w (RetY (xs.map (· * m)) w) := by
  have hlx := seqOk_len hs
  have hsm : inB m (-1099511627776) 1099511627776 = true := inB_true m1 m2
  obtain ⟨R, hR⟩ : ∃ R, R = xs.map (· * m) := ⟨_, rfl⟩
  rw [← hR]
  have hRl : R.length = xs.length := by rw [hR]; simp
  have HRv : Hid (∀ k (h : k < R.length) (h' : k < xs.length), R[k] = xs[k] * m) := fun k h h' => by subst hR; simp
  have hRs : Hid (seqOk R = true) := by
    refine seqOk_of (fun x hx => ?_) (by rw [hRl]; exact hlx)
    subst hR
    simp only [List.mem_map] at hx
    obtain ⟨y, hy, rfl⟩ := hx
    exact hp y hy
  have HR := Lib.hid hRl
  have HP := Lib.hid hp
  clear hRl hR hp
  go_enter Try.func45, Try.ntmps45
  go_wp2_with (first | (go_at_call 69; refine (implIsSequence_any _ _ _ _ hr (by omega)).mono ?_; rintro e w' ⟨rfl, rfl⟩) | (go_at_call 79; refine (isSample_any _ _).mono ?_; rintro e w' ⟨rfl, rfl⟩))
  go_loopw [6, 20] (fun q i wr => ∃ (k : Nat) (Aq : Option Addr) (cq : Nat), k ≤ xs.length ∧ i = .int .i64 k ∧ q = .slice Aq k cq ∧ Own wr w.heap.size Aq cq (R.take k) ∧ Below w.heap.size w wr) (fun _ i _ => xs.length - (intOf i).toNat)
  case atStart => exact ⟨0, _, 0, by omega, rfl, rfl, own_empty w _ (Nat.le_refl _), (Below.refl _ _).alloc (Nat.le_refl _) _⟩
  case round =>
    obtain ⟨k, Aq, cq, hk, rfl, rfl, hown, hb⟩ := hrel
    by_cases hlt : k < xs.length
    · obtain ⟨ad, rfl, hbl, hcell⟩ := hr.at_ hlt
      have hc1 : wr.cell? (ad.add k) = some (.int .i64 (xs.getD k 0)) := (hb.cell (by rw [block_add]; exact hbl)).trans (hcell k hlt)
      rw [getD_at hlt] at hc1
      have hkR : k < R.length := by rw [HR.out]; exact hlt
      have hv := HRv.out k hkR hlt
      have b1 := seqOk_at hs hlt
      have b2 := HP.out _ (List.getElem_mem hlt)
      obtain ⟨v, hve⟩ : ∃ v, v = xs[k] := ⟨_, rfl⟩
      rw [← hve] at hc1 hv b1 b2
      have Hv := Lib.hid hv
      clear hr hcell hve hv
      by_cases hz : v = 0
      · have t0 : (v != 0) = false := by simp [hz]
        have Hz := Lib.hid hz
        clear hz
        go_wp2_with (at_builtin; refine app_take rfl (.tmp 34) (.tmp 38) rfl w.heap.size Aq cq k R _ hkR ?_ rfl hown rfl (by omega) hb.size ?_)
        · exact Hv.out
        intro A1 c1 w1 hown1 hw1 hm1
        go_wp2
        go_roundw
        case rel => exact ⟨k + 1, A1, c1, by omega, by go_num, rfl, hown1, below_app hb hw1 hown hb.size⟩
        case measure => simp [intOf]; omega
      · have t0 : (v != 0) = true := by simpa using hz
        have hdv := abs_div hz b2.1 b2.2
        have a1 : 0 < absI v := by unfold absI; omega
        have t1 : decide (1099511627776 / absI v < absI m) = false := by simp; omega
        clear hz
        go_wp2_with (first | (go_at_call 80; refine (size_any _ _ (by omega) (by omega)).mono ?_; rintro e w' ⟨rfl, rfl⟩) | (at_builtin; refine app_take rfl (.tmp 34) (.tmp 38) rfl w.heap.size Aq cq k R _ hkR ?_ rfl hown rfl (by omega) hb.size ?_))
        · exact Hv.out
        intro A1 c1 w1 hown1 hw1 hm1
        go_wp2
        go_roundw
        case rel => exact ⟨k + 1, A1, c1, by omega, by go_num, rfl, hown1, below_app hb hw1 hown hb.size⟩
        case measure => simp [intOf]; omega
    · obtain rfl : k = xs.length := by omega
      have hO := hown
      rw [List.take_of_length_le (by rw [HR.out]; omega)] at hO
      have hcall := asSequence_own Aq w.heap.size cq R wr hO (by rw [HR.out]; omega)
      rw [doneOf_yes hRs.out, HR.out] at hcall
      have Hc := Lib.hid hcall
      clear hcall hO hown
      go_wp2_with fail
      refine Hc.out.mono ?_
      rintro e w2 ⟨A2, c2, rfl, O2, rfl⟩
      go_wp2_with fail
      go_ret2
      exact ⟨A2, c2, rfl, O2, hb⟩
set_option maxHeartbeats 2000000 in
theorem mixed_yes (A : Option Addr) (c : Nat) (xs : List Int) (A' : Option Addr) (c' : Nat) (ys : List Int) (w : World) (hr : Rd w w.heap.size A xs) (hr' : Rd w w.heap.size A' ys) (hs : seqOk xs = true) (hs' : seqOk ys = true) (hl : ys.length = xs.length) (ho : seqOk (addL xs ys) = true) :
    Calls Try.prog 83 #[.slice A xs.length c, .slice A' xs.length c', .int .i64 1] w (RetY (addL xs ys) w) := by
  have hlx := seqOk_len hs
  have hRl := addL_length hl
  have HRv : Hid (∀ k (h : k < (addL xs ys).length) (h' : k < xs.length) (h'' : k < ys.length), (addL xs ys)[k] = xs[k] + ys[k]) := fun k h h' h'' => by
    have := addL_at h' h''
    rw [List.getElem?_eq_getElem h] at this
    exact Option.some.inj this
  obtain ⟨R, hR⟩ : ∃ R, R = addL xs ys := ⟨_, rfl⟩
  rw [← hR] at hRl HRv ho ⊢
  have HR := Lib.hid hRl
  have HO := Lib.hid ho
  have HL := Lib.hid hl
  have hr2 := hr'
  have i2 := implIsSequence_any A' c' ys w hr' (by omega)
  rw [hl, hs'] at i2
  have I2 := Lib.hid i2
  have t0 : ((xs.length : Int) != (xs.length : Int)) = false := by simp
  clear hRl hR ho hl i2 hr2
  go_enter Try.func83, Try.ntmps83
  go_wp2_with fail
  refine (implIsSequence_any _ _ _ _ hr (by omega)).mono ?_; rintro e w' ⟨rfl, rfl⟩
  go_wp2_with fail
  refine I2.out.mono ?_; rintro e w' ⟨rfl, rfl⟩
  go_wp2_with fail
  go_loopw [8, 28] (fun q i wr => ∃ (k : Nat) (Aq : Option Addr) (cq : Nat), k ≤ xs.length ∧ i = .int .i64 k ∧ q = .slice Aq k cq ∧ Hid (Own wr w.heap.size Aq cq (R.take k)) ∧ Hid (Below w.heap.size w wr)) (fun _ i _ => xs.length - (intOf i).toNat)
  case atStart => exact ⟨0, _, 0, by omega, rfl, rfl, own_empty w _ (Nat.le_refl _), (Below.refl _ _).alloc (Nat.le_refl _) _⟩
  case round =>
    obtain ⟨k, Aq, cq, hk, rfl, rfl, hown, hb⟩ := hrel
    by_cases hlt : k < xs.length
    · have hlt' : k < ys.length := by rw [HL.out]; exact hlt
      obtain ⟨ad, rfl, hbl, hcell⟩ := hr.at_ hlt
      obtain ⟨ad', rfl, hbl', hcell'⟩ := hr'.at_ hlt'
      have hc1 : wr.cell? (ad.add k) = some (.int .i64 (xs.getD k 0)) := (hb.out.cell (by rw [block_add]; exact hbl)).trans (hcell k hlt)
      have hc2 : wr.cell? (ad'.add k) = some (.int .i64 (ys.getD k 0)) := (hb.out.cell (by rw [block_add]; exact hbl')).trans (hcell' k hlt')
      rw [getD_at hlt] at hc1
      rw [getD_at hlt'] at hc2
      have hkR : k < R.length := by rw [HR.out]; exact hlt
      have hv := HRv.out k hkR hlt hlt'
      have b1 := seqOk_at hs hlt
      have b2 := seqOk_at hs' hlt'
      have e1 : R.take (k + 1) = R.take k ++ [xs[k] + ys[k]] := by rw [List.take_succ_eq_append_getElem hkR, hv]
      have hg1 : ad.block < wr.heap.size := Nat.lt_of_lt_of_le hbl hb.out.size
      have hg2 : ad'.block < wr.heap.size := Nat.lt_of_lt_of_le hbl' hb.out.size
      obtain ⟨v, hve⟩ : ∃ v, v = xs[k] := ⟨_, rfl⟩
      obtain ⟨u, hue⟩ : ∃ u, u = ys[k] := ⟨_, rfl⟩
      rw [← hve] at hc1 b1 e1
      rw [← hue] at hc2 b2 e1
      have E1 := Lib.hid e1
      have hlk : Hid ((R.take k).length = k) := by show _ = _; rw [List.length_take]; omega
      have hbX : Below wr.heap.size wr (wr.alloc (.cells #[.int .i64 (v + u)] 3)).drew := ((Below.refl _ _).alloc (Nat.le_refl _) _).drew
      have hwv : IntKind.i64.wrap (v + u) = v + u := Go.IntWalk.i64_in _ (by omega)
      have hwu : IntKind.i64.wrap u = u := Go.IntWalk.i64_in _ (by omega)
      clear hr hr' hcell hcell' hve hue hv e1
      go_wp2
      go_region_law
        ((refine step_app (by rfl) (.tmp 31) (.tmp 43) (by rfl) w.heap.size Aq cq k (R.take k) hlk.out (by rfl) (own_past hown.out hbX) wr.heap.size (v + u) (by rfl) (by simp) (by omega) (by have := hb.out.size; simp; omega) ?_; intro A5 c5 w5 O5 hw5 mv5))
      all_goals
        have O6 : Hid (Own w5 w.heap.size A5 c5 (R.take (k + 1))) := by rw [E1.out]; exact O5
        have hb6 := Lib.hid (below_app (hb.out.trans (hbX.mono hb.out.size)) hw5 (own_past hown.out hbX) (by have := hb.out.size; simp; omega))
        clear O5 hw5 mv5 hc1 hc2 hbX hwv hwu
        go_wp2
        go_roundw
        case rel => exact ⟨k + 1, A5, c5, by omega, by go_num, rfl, O6.out, hb6.out⟩
        case measure => simp [intOf]; omega
    · obtain rfl : k = xs.length := by omega
      have hO := hown.out
      rw [List.take_of_length_le (by rw [HR.out]; omega)] at hO
      have hcall := asSequence_own Aq w.heap.size cq R wr hO (by rw [HR.out]; omega)
      rw [doneOf_yes HO.out, HR.out] at hcall
      have Hc := Lib.hid hcall
      clear hcall hO hown
      go_wp2_with fail
      refine Hc.out.mono ?_
      rintro e w2 ⟨A2, c2, rfl, O2, rfl⟩
      go_wp2_with fail
      go_ret2
      exact ⟨A2, c2, rfl, O2, hb.out⟩
theorem implAdd_yes (A : Option Addr) (c : Nat) (xs : List Int) (A' : Option Addr) (c' : Nat) (ys : List Int) (w : World) (hr : Rd w w.heap.size A xs) (hr' : Rd w w.heap.size A' ys) (hs : seqOk xs = true) (hs' : seqOk ys = true) (hl : ys.length = xs.length) (ho : seqOk (addL xs ys) = true) :
    Calls Try.prog 47 #[.slice A xs.length c, .slice A' xs.length c'] w (RetY (addL xs ys) w) := by
  have hcall := mixed_yes A c xs A' c' ys w hr hr' hs hs' hl ho
  have Hc := Lib.hid hcall
  clear hcall
  go_enter Try.func47, Try.ntmps47
  go_wp2_with fail
  refine Hc.out.mono ?_
  rintro e w2 ⟨A2, c2, rfl, O2, h2⟩
  go_wp2_with fail
  go_ret2
  exact ⟨A2, c2, rfl, O2, h2⟩
end Go.Proofs.Yteabibkbmigpaaa
