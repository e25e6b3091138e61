/- The program's LevelsOf returns what the reference's returns, for all arguments. No condition. -/
import Derived.Test.YtkdlmddofnnngaaLevels
namespace Go.Proofs.Ytkdlmddofnnngaa.levelsOf
open Go.ChangeShapes Go.WideShapes Go.ChangeAt Go.RowKit
set_option linter.unusedVariables false
set_option linter.unusedSimpArgs false
set_option maxRecDepth 100000 in
set_option maxHeartbeats 2000000 in
theorem walkw (w : World) (a0 b0 : Int) (x0 : -9223372036854775808 ≤ a0 ∧ a0 ≤ 9223372036854775807 ∧ -9223372036854775808 ≤ b0 ∧ b0 ≤ 9223372036854775807) :
    Calls Try.prog 10 #[.agg #[.int .i64 a0, .int .i64 b0]] w fun e w' => e = .returned (.bool true) ∧ Below w.heap.size w w' := by
  clear x0
  have Hb : Hid (Below w.heap.size w w) := Below.refl _ _
  have bx : Below w.heap.size w (w.alloc (.cells #[.int .i64 a0, .int .i64 b0] 23)) := (Below.refl _ _).alloc (Nat.le_refl _) _
  have B0 := Blk.new w 23 #[.int .i64 a0, .int .i64 b0]
  have VB0 : w.heap.size < (w.alloc (.cells #[.int .i64 a0, .int .i64 b0] 23)).heap.size := by simp
  replace Hb := Lib.hid (thenB Hb.out bx)
  clear bx
  go_enter Try.func10, Try.ntmps10
  have B0c0 := B0.cell 0
  have B0c1 := B0.cell 1
  simp at B0c0 B0c1
  go_wp2_with fail
  refine (toAccumulator_any a0 b0 _).mono ?_
  rintro e w1 ⟨rfl, h1⟩
  replace B0 := B0.past h1
  replace Hb := Lib.hid (thenB Hb.out h1)
  have t2 : (w.alloc (.cells #[.int .i64 a0, .int .i64 b0] 23)).heap.size ≤ w1.heap.size := h1.size
  clear h1
  clear B0c0 B0c1
  have B0c0 := B0.cell 0
  have B0c1 := B0.cell 1
  simp at B0c0 B0c1
  go_wp2_with fail
  refine (specLevelsOf_any a0 b0 _ ).mono ?_
  rintro e w2 ⟨rfl, h2⟩
  replace B0 := B0.past h2
  replace Hb := Lib.hid (thenB Hb.out h2)
  have t4 : w1.heap.size ≤ w2.heap.size := h2.size
  clear h2
  clear B0c0 B0c1
  have B0c0 := B0.cell 0
  have B0c1 := B0.cell 1
  simp at B0c0 B0c1
  go_wp2_with fail
  refine (toAccumulator_any a0 b0 _).mono ?_
  rintro e w3 ⟨rfl, h3⟩
  replace B0 := B0.past h3
  replace Hb := Lib.hid (thenB Hb.out h3)
  have t6 : w2.heap.size ≤ w3.heap.size := h3.size
  clear h3
  clear B0c0 B0c1
  have B0c0 := B0.cell 0
  have B0c1 := B0.cell 1
  simp at B0c0 B0c1
  go_wp2_with fail
  refine (implLevelsOf_any a0 b0 _ ).mono ?_
  rintro e w4 ⟨rfl, h4⟩
  replace B0 := B0.past h4
  replace Hb := Lib.hid (thenB Hb.out h4)
  have t8 : w3.heap.size ≤ w4.heap.size := h4.size
  clear h4
  go_wp2_with fail
  go_ret
  exact ⟨rfl, Hb.out⟩

set_option maxRecDepth 100000 in
theorem lifted (os : Os) (started : os.Started) (H : Type) (enc : TypeId × Value → H) :
    ReturnsInHanded {} Try.checked os 10 .any (Rows.fnExactLevelsOfSpec.pre6 enc Try.prog Try.f10 Rows.fnExactLevelsOfRow.domain false) (Rows.fnExactLevelsOfSpec.post enc Try.prog Try.f10 false true false false) := by
  refine returnsInHanded_of_change (C := Try.checked) own started (by kernel_rfl) Try.func10
    (ChangeSpec.witness6 (enc := enc) (C := Try.checked) false ⟨#[], #[.agg #[.int .i64 0, .int .i64 0]], []⟩ 8 (by kernel_rfl) (by kernel_rfl) (by kernel_rfl) (by kernel_rfl)) ?_
  intro W base args ds gs before hval0 hW hcnd _
  have hval : ∀ (j : Nat) t v, Try.f10.params[j]? = some t → args[j]? = some v → Value.okWide Try.prog W .any base t v := hval0
  have hW' := hW
  obtain ⟨p, q, hA0, hV, rfl, hfz, hnd⟩ := hW
  have hA : DataW.TrodAll enc Try.prog W 0 (fun _ => true) true Try.f10.params.toList args.toList ds p := hA0
  rw [Try.params10] at hA hval
  obtain ⟨v0, vs0, d0, ds0, p0, q0, hargs, rfl, rfl, h0, g0⟩ := trodAll_cons hA
  obtain ⟨rfl, rfl, rfl⟩ := trodAll_nil g0
  obtain rfl : args = #[v0] := by cases args; simp_all
  obtain ⟨rfl, rfl⟩ := trodVars_none hV
  have k0 := h0
  have lt0 : ∀ x ∈ p0, x.block < W.heap.size := by obtain ⟨m, hm⟩ := k0; exact DataW.trod_lt m _ _ _ hm
  obtain ⟨a0, b0, rfl, x0⟩ := arg_s2 Try.underlying23 (by kernel_rfl) (by kernel_rfl) Try.underlying3 Try.underlying3 (hval 0 23 v0 rfl rfl) h0
  clear hA0 hval0
  refine (walkw W a0 b0 x0).mono fun e W' ⟨he, bel⟩ => ?_
  subst he
  exact ⟨_, rfl, _, _, _, [], _, [], hW', trodAll_mk1 (shut_bool Try.underlying4 _), (trodAll_cons_mk (Below.trod laidOut (by kernel_rfl) (of_decide_eq_true (by kernel_rfl)) k0 bel lt0) trodAll_mk0), rfl, bel.frame _, fun h => by cases h⟩
theorem over : Rows.fnExactLevelsOfRow.holds Try.pinned (OpenSpec.ofChange Rows.fnExactLevelsOfSpec) :=
  OpenClaim.holds_of_wide 10 Try.f10 rfl rfl rfl rfl rfl rfl rfl ⟨rfl, rfl, rfl, rfl, rfl⟩ rfl rfl rfl rfl rfl (by kernel_rfl) Try.func10 (by kernel_rfl)
    (of_decide_eq_true (by kernel_rfl)) (by unfold Func.isWrapper; first | (rw [if_pos (by decide +kernel)]; kernel_rfl) | (rw [if_neg (by decide +kernel)]; exact ⟨rfl, rfl⟩))
    (fun os started H enc _ => lifted os started H enc)
theorem proved : Rows.FnExactLevelsOfSaid := over

end Go.Proofs.Ytkdlmddofnnngaa.levelsOf
