/- Contracts of MechanicalWord where it gives a word. -/
import Derived.Test.YthpjpnilmpihaaaPMech
import Derived.Test.YthpjpnilmpihaaaMatRun
import Derived.Deep.RegionLaw
import Derived.IntWalk
namespace Go.Proofs.Ythpjpnilmpihaaa
open Go.RowKit
set_option linter.unusedVariables false
set_option linter.unusedSimpArgs false
def shareB (p q : Int) : Bool := inB q 1 500 && inB p 0 q
theorem isShare_any (p q : Int) (w : World) :
    Calls Try.prog 44 #[.int .i64 p, .int .i64 q] w fun e w' => e = .returned (.bool (shareB p q)) ∧ w = w' := by
  go_enter Try.func44, Try.ntmps44
  go_wp2
  all_goals (go_ret; exact ⟨ret_bool (by simp [shareB, inB, *]; try omega), rfl⟩)
theorem flo_bd {p q f : Int} (hq : 1 ≤ q) (hq2 : q ≤ 500) (h0 : 0 ≤ p) (h1 : p ≤ q) (f0 : 0 ≤ f) (f1 : f < q) (k : Nat) (hk : k ≤ 1001) : 0 ≤ (k : Int) * p ∧ (k : Int) * p ≤ 500500 ∧ 0 ≤ flo p q f k ∧ flo p q f k ≤ 501000 := by
  have e1 : 0 ≤ (k : Int) * p := Int.mul_nonneg (by omega) h0
  have e2 : (k : Int) * p ≤ 1001 * 500 := Int.mul_le_mul (by omega) (by omega) h0 (by omega)
  refine ⟨e1, by omega, ?_, ?_⟩
  · exact Int.ediv_nonneg (by omega) (by omega)
  · unfold flo
    have : (k * p + f) / q ≤ k * p + f := Int.ediv_le_self _ (by omega)
    omega
def RetMech (p q f : Int) (n : Nat) (w : World) (e : Ending) (w' : World) : Prop := ∃ A c, e = .returned (.tuple #[.slice A n c, .bool true]) ∧ Own w' w.heap.size A c (mech p q f n) ∧ Below w.heap.size w w'
set_option maxHeartbeats 2000000 in
theorem implMech_yes (p q f : Int) (n : Nat) (w : World) (hq : 1 ≤ q) (hq2 : q ≤ 500) (h0 : 0 ≤ p) (h1 : p ≤ q) (f0 : 0 ≤ f) (f1 : f < q) (hn : n ≤ 1000) :
    Calls Try.prog 13 #[.int .i64 p, .int .i64 q, .int .i64 f, .int .i64 n] w (RetMech p q f n w) := by
  have hsh : shareB p q = true := by simp only [shareB, inB_true hq hq2, inB_true h0 h1, Bool.and_self]
  obtain ⟨R, hR⟩ : ∃ R, R = mech p q f n := ⟨_, rfl⟩
  have HRl : Hid (R.length = n) := by show _ = _; rw [hR, mech_length]
  have HRv : Hid (∀ k (h : k < R.length), R[k] = flo p q f (k + 1) - flo p q f k) := fun k h => by subst hR; exact lst_get _ h
  have HR : Hid (R = mech p q f n) := hR
  clear hR
  go_enter Try.func13, Try.ntmps13
  go_wp2_with fail
  refine (isShare_any _ _ _).mono ?_; rintro e w' ⟨rfl, rfl⟩
  go_wp2_with fail
  go_loopw [10, 35] (fun q' i wr => ∃ (k : Nat) (Aq : Option Addr) (cq : Nat), k ≤ n ∧ i = .int .i64 k ∧ q' = .slice Aq k cq ∧ Hid (Own wr w.heap.size Aq cq (R.take k)) ∧ Hid (Below w.heap.size w wr)) (fun _ i _ => n - (intOf i).toNat)
  case atStart => exact ⟨0, _, 0, by omega, rfl, rfl, own_empty w _ (Nat.le_refl _), (Below.refl _ _).alloc (Nat.le_refl _) _⟩
  case round =>
    obtain ⟨k, Aq, cq, hk, rfl, rfl, hown, hb⟩ := hrel
    by_cases hlt : k < n
    · have hkR : k < R.length := by rw [HRl.out]; exact hlt
      have b1 := flo_bd hq hq2 h0 h1 f0 f1 k (by omega)
      have b2 := flo_bd hq hq2 h0 h1 f0 f1 (k + 1) (by omega)
      have eu : ((k + 1 : Nat) : Int) * p = (k : Int) * p + p := by rw [Int.natCast_add, Int.add_mul]; simp
      have ev : ((k : Int) + 1) * p = (k : Int) * p + p := by rw [Int.add_mul]; simp
      have hv := HRv.out k hkR
      have e1 : R.take (k + 1) = R.take k ++ [((k : Int) * p + p + f) / q - ((k : Int) * p + f) / q] := by
        rw [List.take_succ_eq_append_getElem hkR, hv]
        unfold flo
        rw [eu]
      unfold flo at b1 b2
      rw [eu] at b2
      obtain ⟨t, ht⟩ : ∃ t, t = (k : Int) * p := ⟨_, rfl⟩
      rw [← ht] at b1 b2 e1 ev
      have E1 := Lib.hid e1
      have hlk : Hid ((R.take k).length = k) := by show _ = _; rw [List.length_take]; omega
      have q1 := Go.IntWalk.i64_quo (t + p + f) q (by omega)
      have q2 := Go.IntWalk.i64_quo (t + f) q (by omega)
      have d1 : (t + p + f).tdiv q = (t + p + f) / q := Int.tdiv_eq_ediv_of_nonneg (by omega)
      have d2 : (t + f).tdiv q = (t + f) / q := Int.tdiv_eq_ediv_of_nonneg (by omega)
      have s0 : IntKind.i64.wrap ((k : Int) + 1) = (k : Int) + 1 := Go.IntWalk.i64_in _ (by omega)
      have s1 : IntKind.i64.wrap (t + p) = t + p := Go.IntWalk.i64_in _ (by omega)
      have s2 : IntKind.i64.wrap (t + p + f) = t + p + f := Go.IntWalk.i64_in _ (by omega)
      have s3 : IntKind.i64.wrap t = t := Go.IntWalk.i64_in _ (by omega)
      have s4 : IntKind.i64.wrap (t + f) = t + f := Go.IntWalk.i64_in _ (by omega)
      have s5 : IntKind.i64.wrap ((t + p + f) / q - (t + f) / q) = (t + p + f) / q - (t + f) / q := Go.IntWalk.i64_in _ (by omega)
      have s6 : IntKind.i64.wrap ((t + p + f) / q) = (t + p + f) / q := Go.IntWalk.i64_in _ (by omega)
      have s7 : IntKind.i64.wrap ((t + f) / q) = (t + f) / q := Go.IntWalk.i64_in _ (by omega)
      have et : (k : Int) * p = t := ht.symm
      have hqz : q ≠ 0 := by omega
      have hbX : Below wr.heap.size wr (wr.alloc (.cells #[.int .i64 ((t + p + f) / q - (t + f) / q)] 3)).drew := ((Below.refl _ _).alloc (Nat.le_refl _) _).drew
      clear ht hv eu e1
      go_wp2
      go_region_law
        ((refine step_app (by rfl) (.tmp 38) (.tmp 55) (by rfl) w.heap.size Aq cq k (R.take k) hlk.out (by rfl) (own_past hown.out hbX) wr.heap.size ((t + p + f) / q - (t + f) / q) (by rfl) (by simp) (by omega) (by have := hb.out.size; simp; omega) ?_; intro A5 c5 w5 O5 hw5 mv5))
      all_goals
        have O6 : Hid (Own w5 w.heap.size A5 c5 (R.take (k + 1))) := by rw [E1.out]; exact O5
        have hb6 := Lib.hid (below_app (hb.out.trans (hbX.mono hb.out.size)) hw5 (own_past hown.out hbX) (by have := hb.out.size; simp; omega))
        clear O5 hw5 mv5 hbX q1 q2 d1 d2 s0 s1 s2 s3 s4 s5 s6 s7 et ev
        go_wp2
        go_roundw
        case rel => exact ⟨k + 1, A5, c5, by omega, by go_num, rfl, O6.out, hb6.out⟩
        case measure => simp [intOf]; omega
    · obtain rfl : k = n := by omega
      have hO := hown.out
      rw [List.take_of_length_le (by rw [HRl.out]; omega)] at hO
      go_wp2
      go_ret2
      refine ⟨Aq, cq, rfl, ?_, hb.out⟩
      rw [← HR.out]
      exact hO
end Go.Proofs.Ythpjpnilmpihaaa
