/- The bits of a modulator of the first order with two levels, for a constant input in its range, are a balanced word whose sum is as near to its share as 1. No condition. -/
import Derived.Test.YthpjpnilmpihaaaLawAcc
import Derived.Test.YthpjpnilmpihaaaBits
import Derived.Test.YthpjpnilmpihaaaPart
import Derived.Test.YthpjpnilmpihaaaPRun4
namespace Go.Proofs.Ythpjpnilmpihaaa.balancedLaw
open Go.ChangeShapes Go.WideShapes Go.ChangeAt Go.RowKit
set_option linter.unusedVariables false
set_option linter.unusedSimpArgs false
set_option maxRecDepth 100000 in
set_option maxHeartbeats 1000000 in
theorem walkw (w : World) (A0 : Option Addr) (n0 c0 : Nat) (l0 : n0 ≤ c0) (m0 : c0 ≤ maxLen) (r0 : RdB w w.heap.size A0 n0) :
    Calls Try.prog 10 #[.slice A0 n0 c0] w fun e w' => e = .returned (.bool true) ∧ Below w.heap.size w w' := by
  unfold maxLen at m0
  by_cases hn : n0 ≤ 1048576
  case neg =>
    have hx : 1048576 < n0 := by omega
    clear hn
    go_enter Try.func10, Try.ntmps10
    go_wp2
    go_ret
    exact ⟨rfl, Below.refl _ _⟩
  have Hb : Hid (Below w.heap.size w w) := Below.refl _ _
  go_enter Try.func10, Try.ntmps10
  go_wp2_with fail
  refine (at_any _ _ _ _ _ (r0.past Hb.out) (by omega) (by omega) (by omega)).mono ?_
  rintro e w1 ⟨⟨a1, rfl, a11, a12⟩, rfl⟩
  go_wp2_with fail
  obtain ⟨q, hnq⟩ : ∃ q : Nat, 1 + a1 % 60 = q := ⟨(1 + a1 % 60).toNat, by omega⟩
  rw [hnq]
  have lq : 1 ≤ (q : Int) := by omega
  have uq : (q : Int) ≤ 60 := by omega
  clear hnq
  go_wp2_with fail
  refine (order1_yes q _ (by omega) (by omega)).mono ?_
  rintro e w1 ⟨Am, cm, rfl, Om, h1⟩
  replace Hb := Lib.hid (thenB Hb.out h1)
  have t1 : w.heap.size ≤ w1.heap.size := h1.size
  have Lm := own_lo Om
  have Um := own_hi Om
  clear h1
  have bx : Below w1.heap.size w1 (w1.alloc (.cells #[.int .i64 2, .int .i64 q, .slice Am 1 cm] 46)) := (Below.refl _ _).alloc (Nat.le_refl _) _
  have B0 := Blk.new w1 46 #[.int .i64 2, .int .i64 q, .slice Am 1 cm]
  have VB0 : w1.heap.size < (w1.alloc (.cells #[.int .i64 2, .int .i64 q, .slice Am 1 cm] 46)).heap.size := by simp
  replace Om := own_past Om bx
  replace Hb := Lib.hid (thenB Hb.out bx)
  clear bx
  have B0c0 := B0.cell 0
  have B0c1 := B0.cell 1
  have B0c2 := B0.cell 2
  simp at B0c0 B0c1 B0c2
  go_wp2_with fail
  refine (at_any _ _ _ _ _ (r0.past Hb.out) (by omega) (by omega) (by omega)).mono ?_
  rintro e w2 ⟨⟨b1, rfl, b11, b12⟩, rfl⟩
  have x0 : IntKind.i64.wrap (2 * (q : Int)) = 2 * (q : Int) := Go.IntWalk.i64_in _ (by omega)
  have x1 : IntKind.i64.wrap (2 * (q : Int) + 1) = 2 * (q : Int) + 1 := Go.IntWalk.i64_in _ (by omega)
  have hzv : (2 * (q : Int) + 1) ≠ 0 := by omega
  have ev : b1.tmod (2 * (q : Int) + 1) = b1 % (2 * (q : Int) + 1) := Int.tmod_eq_emod_of_nonneg (by omega)
  have lv : 0 ≤ b1 % (2 * (q : Int) + 1) := Int.emod_nonneg _ hzv
  have uv : b1 % (2 * (q : Int) + 1) < (2 * (q : Int) + 1) := Int.emod_lt_of_pos _ (by omega)
  have wv : IntKind.i64.wrap (b1 % (2 * (q : Int) + 1)) = b1 % (2 * (q : Int) + 1) := Go.IntWalk.i64_in _ (by omega)
  go_wp2_with fail
  obtain ⟨v, hv⟩ : ∃ v, v = b1 % (2 * (q : Int) + 1) - q := ⟨_, rfl⟩
  rw [← hv]
  have vl : -(q : Int) ≤ v := by omega
  have vu : v ≤ (q : Int) := by omega
  clear wv ev lv uv hv hzv
  clear B0c0 B0c1 B0c2
  have B0c0 := B0.cell 0
  have B0c1 := B0.cell 1
  have B0c2 := B0.cell 2
  simp at B0c0 B0c1 B0c2
  go_wp2_with fail
  refine (at_any _ _ _ _ _ (r0.past Hb.out) (by omega) (by omega) (by omega)).mono ?_
  rintro e w2 ⟨⟨c1, rfl, c11, c12⟩, rfl⟩
  have hza : (2 * (q : Int) + 1) ≠ 0 := by omega
  have ea : c1.tmod (2 * (q : Int) + 1) = c1 % (2 * (q : Int) + 1) := Int.tmod_eq_emod_of_nonneg (by omega)
  have la : 0 ≤ c1 % (2 * (q : Int) + 1) := Int.emod_nonneg _ hza
  have ua : c1 % (2 * (q : Int) + 1) < (2 * (q : Int) + 1) := Int.emod_lt_of_pos _ (by omega)
  have wa : IntKind.i64.wrap (c1 % (2 * (q : Int) + 1)) = c1 % (2 * (q : Int) + 1) := Go.IntWalk.i64_in _ (by omega)
  go_wp2_with fail
  obtain ⟨a, ha⟩ : ∃ a, a = c1 % (2 * (q : Int) + 1) - q := ⟨_, rfl⟩
  rw [← ha]
  have al : -(q : Int) ≤ a := by omega
  have au : a ≤ (q : Int) := by omega
  clear wa ea la ua ha hza
  have bx : Below (w1.alloc (.cells #[.int .i64 2, .int .i64 q, .slice Am 1 cm] 46)).heap.size (w1.alloc (.cells #[.int .i64 2, .int .i64 q, .slice Am 1 cm] 46)) ((w1.alloc (.cells #[.int .i64 2, .int .i64 q, .slice Am 1 cm] 46)).alloc (.cells #[.int .i64 a] 3)) := (Below.refl _ _).alloc (Nat.le_refl _) _
  have Oa := own_cells (xs := [a]) (w1.alloc (.cells #[.int .i64 2, .int .i64 q, .slice Am 1 cm] 46)) #[.int .i64 a] (Nat.le_refl _) rfl (by simp [maxLen])
  simp only [World.size_alloc] at Oa
  have t3 : (w1.alloc (.cells #[.int .i64 2, .int .i64 q, .slice Am 1 cm] 46)).heap.size ≤ ((w1.alloc (.cells #[.int .i64 2, .int .i64 q, .slice Am 1 cm] 46)).alloc (.cells #[.int .i64 a] 3)).heap.size := bx.size
  replace Om := own_past Om bx
  replace B0 := B0.past bx
  replace Hb := Lib.hid (thenB Hb.out bx)
  clear bx
  have La := own_lo Oa
  have Ua := own_hi Oa
  clear B0c0 B0c1 B0c2
  have B0c0 := B0.cell 0
  have B0c1 := B0.cell 1
  have B0c2 := B0.cell 2
  simp at B0c0 B0c1 B0c2
  go_wp2_with fail
  refine (at_any _ _ _ _ _ (r0.past Hb.out) (by omega) (by omega) (by omega)).mono ?_
  rintro e w2 ⟨⟨d1, rfl, d11, d12⟩, rfl⟩
  go_wp2_with fail
  obtain ⟨n, hnn⟩ : ∃ n : Nat, d1 % 100 = n := ⟨(d1 % 100).toNat, by omega⟩
  rw [hnn]
  have ln : 0 ≤ (n : Int) := by omega
  have un : (n : Int) ≤ 99 := by omega
  clear hnn
  have bx : Below ((w1.alloc (.cells #[.int .i64 2, .int .i64 q, .slice Am 1 cm] 46)).alloc (.cells #[.int .i64 a] 3)).heap.size ((w1.alloc (.cells #[.int .i64 2, .int .i64 q, .slice Am 1 cm] 46)).alloc (.cells #[.int .i64 a] 3)) ((w1.alloc (.cells #[.int .i64 2, .int .i64 q, .slice Am 1 cm] 46)).alloc (.cells #[.int .i64 a] 3)).drew := (Below.refl _ _).drew
  replace Om := own_past Om bx
  replace Oa := own_past Oa bx
  replace B0 := B0.past bx
  replace Hb := Lib.hid (thenB Hb.out bx)
  clear bx
  have t4 : ((w1.alloc (.cells #[.int .i64 2, .int .i64 q, .slice Am 1 cm] 46)).alloc (.cells #[.int .i64 a] 3)).heap.size ≤ ((w1.alloc (.cells #[.int .i64 2, .int .i64 q, .slice Am 1 cm] 46)).alloc (.cells #[.int .i64 a] 3)).drew.heap.size := Nat.le_refl _
  clear B0c0 B0c1 B0c2
  have B0c0 := B0.cell 0
  have B0c1 := B0.cell 1
  have B0c2 := B0.cell 2
  simp at B0c0 B0c1 B0c2
  go_wp2_with fail
  go_region_held3 (fun w' => w'.cell? ⟨w1.heap.size, 0, none⟩ = some (.int .i64 2) ∧ w'.cell? ⟨w1.heap.size, 1, none⟩ = some (.int .i64 q) ∧ w'.cell? ⟨w1.heap.size, 2, none⟩ = some (.slice Am 1 cm)) (first | go_keep)
    (first
      | (go_at_call 37; clear B0c0 B0c1 B0c2; have B0c0 := B0.cell 0; have B0c1 := B0.cell 1; have B0c2 := B0.cell 2; simp at B0c0 B0c1 B0c2; refine (constant_any v n _ (by omega)).mono ?_; rintro e w2 ⟨Ax, cx, rfl, Ox, h2⟩; replace Om := own_past Om h2; replace Oa := own_past Oa h2; replace B0 := B0.past h2; replace Hb := Lib.hid (thenB Hb.out h2); have t5 : ((w1.alloc (.cells #[.int .i64 2, .int .i64 q, .slice Am 1 cm] 46)).alloc (.cells #[.int .i64 a] 3)).drew.heap.size ≤ w2.heap.size := h2.size; have Lx := own_lo Ox; have Ux := own_hi Ox; clear h2; rw [List.length_replicate]; clear B0c0 B0c1 B0c2; have B0c0 := B0.cell 0; have B0c1 := B0.cell 1; have B0c2 := B0.cell 2; simp at B0c0 B0c1 B0c2)
      | (go_at_call 36; clear B0c0 B0c1 B0c2; have B0c0 := B0.cell 0; have B0c1 := B0.cell 1; have B0c2 := B0.cell 2; simp at B0c0 B0c1 B0c2; refine (run1_yes q v a n Am cm _ _ Ax cx _ (own_rd Om) (own_rd Oa) (own_rd Ox) (by omega) (by omega) (by omega) (by omega) (by omega) (by omega) (by omega)).mono ?_; rintro e w3 ⟨Ay, cy, Ae, ce, A2, c2, rfl, Oy, h3⟩; replace Om := own_past Om h3; replace Oa := own_past Oa h3; replace Ox := own_past Ox h3; replace B0 := B0.past h3; replace Hb := Lib.hid (thenB Hb.out h3); have t6 : w2.heap.size ≤ w3.heap.size := h3.size; have Ly := own_lo Oy; have Uy := own_hi Oy; clear h3; clear B0c0 B0c1 B0c2; have B0c0 := B0.cell 0; have B0c1 := B0.cell 1; have B0c2 := B0.cell 2; simp at B0c0 B0c1 B0c2))
  clear B0c0 B0c1 B0c2
  have B0c0 := B0.cell 0
  have B0c1 := B0.cell 1
  have B0c2 := B0.cell 2
  simp at B0c0 B0c1 B0c2
  go_wp2_with fail
  refine (bits1_yes q v a n Ay cy _ (own_rd Oy) (by omega) (by omega) (by omega)).mono ?_
  rintro e w4 ⟨Aw, cw, rfl, Ow, h4⟩
  replace Om := own_past Om h4
  replace Oa := own_past Oa h4
  replace Ox := own_past Ox h4
  replace Oy := own_past Oy h4
  replace B0 := B0.past h4
  replace Hb := Lib.hid (thenB Hb.out h4)
  have t7 : w3.heap.size ≤ w4.heap.size := h4.size
  have Lw := own_lo Ow
  have Uw := own_hi Ow
  clear h4
  have tn : ((n : Int) != (n : Int)) = false := by simp
  have hcp := (own_cap Ow).1
  have hcall := fun W h => implIsBalanced_any Aw cw (bits1 q v a n) W h (by rw [bits1_length]; omega) hcp
  rw [bits1_bal (by omega) vl vu al au (by omega), bits1_length] at hcall
  rw [bits1_length] at hcp
  have Hc := Lib.hid hcall
  clear hcall
  clear B0c0 B0c1 B0c2
  have B0c0 := B0.cell 0
  have B0c1 := B0.cell 1
  have B0c2 := B0.cell 2
  simp at B0c0 B0c1 B0c2
  go_wp2_with fail
  refine (Hc.out _ (own_rd Ow)).mono ?_
  rintro e w5 ⟨rfl, h5⟩
  replace Om := own_past Om h5
  replace Oa := own_past Oa h5
  replace Ox := own_past Ox h5
  replace Oy := own_past Oy h5
  replace Ow := own_past Ow h5
  replace B0 := B0.past h5
  replace Hb := Lib.hid (thenB Hb.out h5)
  have t8 : w4.heap.size ≤ w5.heap.size := h5.size
  clear h5
  clear Hc
  have hsq := wordOk_seqOk (bits1_word (s := q) (v := v) (a := a) (n := n) (by omega))
  have hcall := fun W h => sumOf_yes Aw cw n (bits1 q v a n) W h bits1_length hsq
  have hsb := bits_sum (xs := bits1 q v a n) (fun y hy => wordOk_mem (bits1_word (by omega)) y hy)
  rw [bits1_length] at hsb
  have hss := bits1_sum (n := n) vl vu al au
  obtain ⟨S, hS⟩ : ∃ S, S = (bits1 q v a n).sum := ⟨_, rfl⟩
  rw [← hS] at hcall hsb hss
  have Hc := Lib.hid hcall
  clear hcall
  clear hsq hS
  clear B0c0 B0c1 B0c2
  have B0c0 := B0.cell 0
  have B0c1 := B0.cell 1
  have B0c2 := B0.cell 2
  simp at B0c0 B0c1 B0c2
  go_wp2_with fail
  refine (Hc.out _ (own_rd Ow)).mono ?_
  rintro e w6 ⟨rfl, rfl⟩
  clear Hc
  have p1 : 0 ≤ 2 * (q : Int) * S ∧ 2 * (q : Int) * S ≤ 12000 := ⟨Int.mul_nonneg (by omega) (by omega), by have := Int.mul_le_mul (a := 2 * (q : Int)) (b := S) (c := 120) (d := 99) (by omega) (by omega) (by omega) (by omega); omega⟩
  have i1 : IntKind.i64.wrap (2 * (q : Int) * S) = 2 * (q : Int) * S := wrap_in (by omega) (by omega)
  have i0 : IntKind.i64.wrap (v + (q : Int)) = v + (q : Int) := wrap_in (by omega) (by omega)
  have i2 : IntKind.i64.wrap ((n : Int) * (v + (q : Int))) = (n : Int) * (v + (q : Int)) := wrap_in (by omega) (by omega)
  have i3 : IntKind.i64.wrap (2 * (q : Int) * S - (n : Int) * (v + (q : Int))) = 2 * (q : Int) * S - (n : Int) * (v + (q : Int)) := wrap_in (by omega) (by omega)
  have t3 : decide (max (2 * (q : Int) * S - (n : Int) * (v + (q : Int))) (-(2 * (q : Int) * S - (n : Int) * (v + (q : Int)))) ≤ 2 * (q : Int)) = true := decide_eq_true (by omega)
  clear B0c0 B0c1 B0c2
  have B0c0 := B0.cell 0
  have B0c1 := B0.cell 1
  have B0c2 := B0.cell 2
  simp at B0c0 B0c1 B0c2
  go_wp2_with fail
  refine (abs_any (2 * (q : Int) * S - (n : Int) * (v + (q : Int))) _ (by omega) (by omega)).mono ?_
  rintro e w6 ⟨rfl, rfl⟩
  go_wp2_with fail
  go_ret
  exact ⟨rfl, Hb.out⟩
set_option maxRecDepth 100000 in
theorem lifted (os : Os) (started : os.Started) (H : Type) (enc : TypeId × Value → H) :
    ReturnsInHanded {} Try.checked os 10 .any (Rows.fnBalancedSpec.pre6 enc Try.prog Try.f10 Rows.fnBalancedRow.domain false) (Rows.fnBalancedSpec.post enc Try.prog Try.f10 false true false false) := by
  refine returnsInHanded_of_change (C := Try.checked) own started (by kernel_rfl) Try.func10
    (ChangeSpec.witness6 (enc := enc) (C := Try.checked) false ⟨#[], #[.slice none 0 0], []⟩ 8 (by kernel_rfl) (by kernel_rfl) (by kernel_rfl) (by kernel_rfl)) ?_
  intro W base args ds gs before hval0 hW hcnd _
  have hval : ∀ (j : Nat) t v, Try.f10.params[j]? = some t → args[j]? = some v → Value.okWide Try.prog W .any base t v := hval0
  have hW' := hW
  obtain ⟨p, q, hA0, hV, rfl, hfz, hnd⟩ := hW
  have hA : DataW.TrodAll enc Try.prog W 0 (fun _ => true) true Try.f10.params.toList args.toList ds p := hA0
  rw [Try.params10] at hA hval
  obtain ⟨v0, vs0, d0, ds0, p0, q0, hargs, rfl, rfl, h0, g0⟩ := trodAll_cons hA
  obtain ⟨rfl, rfl, rfl⟩ := trodAll_nil g0
  obtain rfl : args = #[v0] := by cases args; simp_all
  obtain ⟨rfl, rfl⟩ := trodVars_none hV
  have k0 := h0
  have lt0 : ∀ x ∈ p0, x.block < W.heap.size := by obtain ⟨m, hm⟩ := k0; exact DataW.trod_lt m _ _ _ hm
  obtain ⟨A0, z0, c0, rfl, l0, m0, r0⟩ := arg_bytes Try.underlying22 Try.underlying5 (by kernel_rfl) (hval 0 22 v0 rfl rfl) h0
  clear hA0 hval0
  refine (walkw W A0 z0 c0 l0 m0 r0).mono fun e W' ⟨he, bel⟩ => ?_
  subst he
  exact ⟨_, rfl, _, _, _, [], _, [], hW', trodAll_mk1 (shut_bool Try.underlying4 _), (trodAll_cons_mk (Below.trod laidOut (by kernel_rfl) (of_decide_eq_true (by kernel_rfl)) k0 bel lt0) trodAll_mk0), rfl, bel.frame _, fun h => by cases h⟩
theorem over : Rows.fnBalancedRow.holds Try.pinned (OpenSpec.ofChange Rows.fnBalancedSpec) :=
  OpenClaim.holds_of_wide 10 Try.f10 rfl rfl rfl rfl rfl rfl rfl ⟨rfl, rfl, rfl, rfl, rfl⟩ rfl rfl rfl rfl rfl (by kernel_rfl) Try.func10 (by kernel_rfl)
    (of_decide_eq_true (by kernel_rfl)) (by unfold Func.isWrapper; first | (rw [if_pos (by decide +kernel)]; kernel_rfl) | (rw [if_neg (by decide +kernel)]; exact ⟨rfl, rfl⟩))
    (fun os started H enc _ => lifted os started H enc)
theorem proved : Rows.FnBalancedSaid := over

end Go.Proofs.Ythpjpnilmpihaaa.balancedLaw
