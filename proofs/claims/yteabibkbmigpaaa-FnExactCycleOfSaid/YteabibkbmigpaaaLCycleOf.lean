/- The program's CycleOf returns what the reference's returns, for all arguments. No condition. -/
import Derived.Test.YteabibkbmigpaaaCycle
namespace Go.Proofs.Yteabibkbmigpaaa.cycleOf
open Go.ChangeShapes Go.WideShapes Go.ChangeAt Go.RowKit
set_option linter.unusedVariables false
set_option linter.unusedSimpArgs false
set_option maxRecDepth 100000 in
set_option maxHeartbeats 2000000 in
theorem walkw (w : World) (a0 b0 : Int) (x0 : -9223372036854775808 ≤ a0 ∧ a0 ≤ 9223372036854775807 ∧ -9223372036854775808 ≤ b0 ∧ b0 ≤ 9223372036854775807) (A1 : Option Addr) (z1 : List Int) (c1 : Nat) (l1 : z1.length ≤ c1) (m1 : c1 ≤ maxLen) (r1 : Rd w w.heap.size A1 z1) (i1 : I64 z1) (a2 : Int) (x2 : -9223372036854775808 ≤ a2) (y2 : a2 ≤ 9223372036854775807) (a3 : Int) (x3 : -9223372036854775808 ≤ a3) (y3 : a3 ≤ 9223372036854775807) :
    Calls Try.prog 5 #[.agg #[.int .i64 a0, .int .i64 b0], .slice A1 z1.length c1, .int .i64 a2, .int .i64 a3] w fun e w' => e = .returned (.bool true) ∧ Below w.heap.size w w' := by
  clear x0
  unfold maxLen at m1
  have I1 := Lib.hid i1
  clear i1
  clear x2 y2
  clear x3 y3
  by_cases n1 : z1.length ≤ 1048576
  case neg =>
    have n1x : 1048576 < z1.length := by omega
    clear n1
    go_enter Try.func5, Try.ntmps5
    go_wp2
    go_ret
    exact ⟨rfl, (Below.refl _ _).alloc (by simp) _⟩
  have Hb : Hid (Below w.heap.size w w) := Below.refl _ _
  have bx : Below w.heap.size w (w.alloc (.cells #[.int .i64 a0, .int .i64 b0] 42)) := (Below.refl _ _).alloc (Nat.le_refl _) _
  have B0 := Blk.new w 42 #[.int .i64 a0, .int .i64 b0]
  have VB0 : w.heap.size < (w.alloc (.cells #[.int .i64 a0, .int .i64 b0] 42)).heap.size := by simp
  replace Hb := Lib.hid (thenB Hb.out bx)
  clear bx
  go_enter Try.func5, Try.ntmps5
  have B0c0 := B0.cell 0
  have B0c1 := B0.cell 1
  simp at B0c0 B0c1
  go_wp2_with fail
  refine (toAccumulator_any a0 b0 _).mono ?_
  rintro e w1 ⟨rfl, h1⟩
  replace B0 := B0.past h1
  replace Hb := Lib.hid (thenB Hb.out h1)
  have t2 : (w.alloc (.cells #[.int .i64 a0, .int .i64 b0] 42)).heap.size ≤ w1.heap.size := h1.size
  clear h1
  clear B0c0 B0c1
  have B0c0 := B0.cell 0
  have B0c1 := B0.cell 1
  simp at B0c0 B0c1
  go_wp2_with fail
  refine (toIntS_any A1 c1 z1 _ (r1.past Hb.out) (by omega)).mono ?_
  rintro e w2 ⟨Ak1a, ck1a, rfl, Ok1a, h2⟩
  replace B0 := B0.past h2
  replace Hb := Lib.hid (thenB Hb.out h2)
  have t4 : w1.heap.size ≤ w2.heap.size := h2.size
  have Lk1a := own_lo Ok1a
  have Uk1a := own_hi Ok1a
  clear h2
  clear B0c0 B0c1
  have B0c0 := B0.cell 0
  have B0c1 := B0.cell 1
  simp at B0c0 B0c1
  go_wp2_with fail
  refine (specCycleOf_any a0 b0 Ak1a ck1a z1 a2 a3 _ (own_rd Ok1a) (by omega)).mono ?_
  rintro e w3 ⟨rfl, h3⟩
  replace Ok1a := own_past Ok1a h3
  replace B0 := B0.past h3
  replace Hb := Lib.hid (thenB Hb.out h3)
  have t6 : w2.heap.size ≤ w3.heap.size := h3.size
  clear h3
  clear B0c0 B0c1
  have B0c0 := B0.cell 0
  have B0c1 := B0.cell 1
  simp at B0c0 B0c1
  go_wp2_with fail
  refine (toIntS_any A1 c1 z1 _ (r1.past Hb.out) (by omega)).mono ?_
  rintro e w4 ⟨Ak2a, ck2a, rfl, Ok2a, h4⟩
  replace Ok1a := own_past Ok1a h4
  replace B0 := B0.past h4
  replace Hb := Lib.hid (thenB Hb.out h4)
  have t8 : w3.heap.size ≤ w4.heap.size := h4.size
  have Lk2a := own_lo Ok2a
  have Uk2a := own_hi Ok2a
  clear h4
  clear B0c0 B0c1
  have B0c0 := B0.cell 0
  have B0c1 := B0.cell 1
  simp at B0c0 B0c1
  go_wp2_with fail
  refine (toAccumulator_any a0 b0 _).mono ?_
  rintro e w5 ⟨rfl, h5⟩
  replace Ok1a := own_past Ok1a h5
  replace Ok2a := own_past Ok2a h5
  replace B0 := B0.past h5
  replace Hb := Lib.hid (thenB Hb.out h5)
  have t10 : w4.heap.size ≤ w5.heap.size := h5.size
  clear h5
  clear B0c0 B0c1
  have B0c0 := B0.cell 0
  have B0c1 := B0.cell 1
  simp at B0c0 B0c1
  go_wp2_with fail
  refine (implCycleOf_any a0 b0 Ak2a ck2a z1 a2 a3 _ (own_rd Ok2a) (by omega)).mono ?_
  rintro e w6 ⟨rfl, h6⟩
  replace Ok1a := own_past Ok1a h6
  replace Ok2a := own_past Ok2a h6
  replace B0 := B0.past h6
  replace Hb := Lib.hid (thenB Hb.out h6)
  have t12 : w5.heap.size ≤ w6.heap.size := h6.size
  clear h6
  clear B0c0 B0c1
  have B0c0 := B0.cell 0
  have B0c1 := B0.cell 1
  simp at B0c0 B0c1
  go_wp2_with fail
  refine (toIntS_any A1 c1 z1 _ (r1.past Hb.out) (by omega)).mono ?_
  rintro e w7 ⟨Ak3a, ck3a, rfl, Ok3a, h7⟩
  replace Ok1a := own_past Ok1a h7
  replace Ok2a := own_past Ok2a h7
  replace B0 := B0.past h7
  replace Hb := Lib.hid (thenB Hb.out h7)
  have t14 : w6.heap.size ≤ w7.heap.size := h7.size
  have Lk3a := own_lo Ok3a
  have Uk3a := own_hi Ok3a
  clear h7
  clear B0c0 B0c1
  have B0c0 := B0.cell 0
  have B0c1 := B0.cell 1
  simp at B0c0 B0c1
  go_wp2_with fail
  refine (eqIntS_same Ak2a Ak3a ck2a ck3a _ _ (own_rd Ok2a) (own_rd Ok3a) (by omega)).mono ?_
  rintro e w8 ⟨rfl, h8⟩
  replace Ok1a := own_past Ok1a h8
  replace Ok2a := own_past Ok2a h8
  replace Ok3a := own_past Ok3a h8
  replace B0 := B0.past h8
  replace Hb := Lib.hid (thenB Hb.out h8)
  have t16 : w7.heap.size ≤ w8.heap.size := h8.size
  clear h8
  go_wp2_with fail
  go_ret
  exact ⟨rfl, Hb.out⟩

set_option maxRecDepth 100000 in
theorem lifted (os : Os) (started : os.Started) (H : Type) (enc : TypeId × Value → H) :
    ReturnsInHanded {} Try.checked os 5 .any (Rows.fnExactCycleOfSpec.pre6 enc Try.prog Try.f5 Rows.fnExactCycleOfRow.domain false) (Rows.fnExactCycleOfSpec.post enc Try.prog Try.f5 false true false false) := by
  refine returnsInHanded_of_change (C := Try.checked) own started (by kernel_rfl) Try.func5
    (ChangeSpec.witness6 (enc := enc) (C := Try.checked) false ⟨#[], #[.agg #[.int .i64 0, .int .i64 0], .slice none 0 0, .int .i64 0, .int .i64 0], []⟩ 8 (by kernel_rfl) (by kernel_rfl) (by kernel_rfl) (by kernel_rfl)) ?_
  intro W base args ds gs before hval0 hW hcnd _
  have hval : ∀ (j : Nat) t v, Try.f5.params[j]? = some t → args[j]? = some v → Value.okWide Try.prog W .any base t v := hval0
  have hW' := hW
  obtain ⟨p, q, hA0, hV, rfl, hfz, hnd⟩ := hW
  have hA : DataW.TrodAll enc Try.prog W 0 (fun _ => true) true Try.f5.params.toList args.toList ds p := hA0
  rw [Try.params5] at hA hval
  obtain ⟨v0, vs0, d0, ds0, p0, q0, hargs, rfl, rfl, h0, g0⟩ := trodAll_cons hA
  obtain ⟨v1, vs1, d1, ds1, p1, q1, rfl, rfl, rfl, h1, g1⟩ := trodAll_cons g0
  obtain ⟨v2, vs2, d2, ds2, p2, q2, rfl, rfl, rfl, h2, g2⟩ := trodAll_cons g1
  obtain ⟨v3, vs3, d3, ds3, p3, q3, rfl, rfl, rfl, h3, g3⟩ := trodAll_cons g2
  obtain ⟨rfl, rfl, rfl⟩ := trodAll_nil g3
  obtain rfl : args = #[v0, v1, v2, v3] := by cases args; simp_all
  obtain ⟨rfl, rfl⟩ := trodVars_none hV
  have k0 := h0
  have lt0 : ∀ x ∈ p0, x.block < W.heap.size := by obtain ⟨m, hm⟩ := k0; exact DataW.trod_lt m _ _ _ hm
  have k1 := h1
  have lt1 : ∀ x ∈ p1, x.block < W.heap.size := by obtain ⟨m, hm⟩ := k1; exact DataW.trod_lt m _ _ _ hm
  have k2 := h2
  have lt2 : ∀ x ∈ p2, x.block < W.heap.size := by obtain ⟨m, hm⟩ := k2; exact DataW.trod_lt m _ _ _ hm
  have k3 := h3
  have lt3 : ∀ x ∈ p3, x.block < W.heap.size := by obtain ⟨m, hm⟩ := k3; exact DataW.trod_lt m _ _ _ hm
  obtain ⟨a0, b0, rfl, x0⟩ := arg_s2 Try.underlying42 (by kernel_rfl) (by kernel_rfl) Try.underlying3 Try.underlying3 (hval 0 42 v0 rfl rfl) h0
  obtain ⟨A1, z1, c1, rfl, l1, m1, r1, i1⟩ := arg_ints Try.underlying26 Try.underlying3 (by kernel_rfl) (hval 1 26 v1 rfl rfl) h1
  obtain ⟨a2, rfl, ha2, hb2⟩ := arg_int Try.underlying3 (hval 2 3 v2 rfl rfl) h2
  obtain ⟨a3, rfl, ha3, hb3⟩ := arg_int Try.underlying3 (hval 3 3 v3 rfl rfl) h3
  clear hA0 hval0
  refine (walkw W a0 b0 x0 A1 z1 c1 l1 m1 r1 i1 a2 ha2 hb2 a3 ha3 hb3).mono fun e W' ⟨he, bel⟩ => ?_
  subst he
  exact ⟨_, rfl, _, _, _, [], _, [], hW', trodAll_mk1 (shut_bool Try.underlying4 _), (trodAll_cons_mk (Below.trod laidOut (by kernel_rfl) (of_decide_eq_true (by kernel_rfl)) k0 bel lt0) (trodAll_cons_mk (Below.trod laidOut (by kernel_rfl) (of_decide_eq_true (by kernel_rfl)) k1 bel lt1) (trodAll_cons_mk (Below.trod laidOut (by kernel_rfl) (of_decide_eq_true (by kernel_rfl)) k2 bel lt2) (trodAll_cons_mk (Below.trod laidOut (by kernel_rfl) (of_decide_eq_true (by kernel_rfl)) k3 bel lt3) trodAll_mk0)))), rfl, bel.frame _, fun h => by cases h⟩
theorem over : Rows.fnExactCycleOfRow.holds Try.pinned (OpenSpec.ofChange Rows.fnExactCycleOfSpec) :=
  OpenClaim.holds_of_wide 5 Try.f5 rfl rfl rfl rfl rfl rfl rfl ⟨rfl, rfl, rfl, rfl, rfl⟩ rfl rfl rfl rfl rfl (by kernel_rfl) Try.func5 (by kernel_rfl)
    (of_decide_eq_true (by kernel_rfl)) (by unfold Func.isWrapper; first | (rw [if_pos (by decide +kernel)]; kernel_rfl) | (rw [if_neg (by decide +kernel)]; exact ⟨rfl, rfl⟩))
    (fun os started H enc _ => lifted os started H enc)
theorem proved : Rows.FnExactCycleOfSaid := over

end Go.Proofs.Yteabibkbmigpaaa.cycleOf
