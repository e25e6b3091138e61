/- The program's FormatSequence returns what the reference's returns, for all arguments, and leaves them as they were. No condition. -/
import Derived.Test.YtnihnobnhihoiaaFmtM
namespace Go.Proofs.Ytnihnobnhihoiaa.formatSequence
open Go.ChangeShapes Go.WideShapes Go.ChangeAt Go.RowKit
set_option linter.unusedVariables false
set_option linter.unusedSimpArgs false
set_option maxRecDepth 100000 in
set_option maxHeartbeats 2000000 in
theorem walkw (w : World) (A0 : Option Addr) (z0 : List Int) (c0 : Nat) (l0 : z0.length ≤ c0) (m0 : c0 ≤ maxLen) (r0 : Rd w w.heap.size A0 z0) (i0 : I64 z0) :
    Calls Try.prog 3 #[.slice A0 z0.length c0] w fun e w' => e = .returned (.bool true) ∧ Below w.heap.size w w' := by
  unfold maxLen at m0
  have I0 := Lib.hid i0
  clear i0
  by_cases n0 : z0.length ≤ 1048576
  case neg =>
    have n0x : 1048576 < z0.length := by omega
    clear n0
    go_enter Try.func3, Try.ntmps3
    go_wp2
    go_ret
    exact ⟨rfl, Below.refl _ _⟩
  have Hb : Hid (Below w.heap.size w w) := Below.refl _ _
  go_enter Try.func3, Try.ntmps3
  go_wp2_with fail
  refine (toIntS_any A0 c0 z0 _ (r0.past Hb.out) (by omega)).mono ?_
  rintro e w1 ⟨Ak1a, ck1a, rfl, Ok1a, h1⟩
  replace Hb := Lib.hid (thenB Hb.out h1)
  have t1 : w.heap.size ≤ w1.heap.size := h1.size
  have Lk1a := own_lo Ok1a
  have Uk1a := own_hi Ok1a
  clear h1
  go_wp2_with fail
  refine (specFormat_c Ak1a ck1a z0 _ (own_rd Ok1a) (by omega) (own_cap Ok1a)).mono ?_
  rintro e w2 ⟨rfl, h2⟩
  replace Ok1a := own_past Ok1a h2
  replace Hb := Lib.hid (thenB Hb.out h2)
  have t3 : w1.heap.size ≤ w2.heap.size := h2.size
  clear h2
  go_wp2_with fail
  refine (toIntS_any A0 c0 z0 _ (r0.past Hb.out) (by omega)).mono ?_
  rintro e w3 ⟨Ak2a, ck2a, rfl, Ok2a, h3⟩
  replace Ok1a := own_past Ok1a h3
  replace Hb := Lib.hid (thenB Hb.out h3)
  have t5 : w2.heap.size ≤ w3.heap.size := h3.size
  have Lk2a := own_lo Ok2a
  have Uk2a := own_hi Ok2a
  clear h3
  go_wp2_with fail
  refine (implFormat_c Ak2a ck2a z0 _ (own_rd Ok2a) (by omega) (own_cap Ok2a)).mono ?_
  rintro e w4 ⟨rfl, h4⟩
  replace Ok1a := own_past Ok1a h4
  replace Ok2a := own_past Ok2a h4
  replace Hb := Lib.hid (thenB Hb.out h4)
  have t7 : w3.heap.size ≤ w4.heap.size := h4.size
  clear h4
  go_wp2_with fail
  refine (toIntS_any A0 c0 z0 _ (r0.past Hb.out) (by omega)).mono ?_
  rintro e w5 ⟨Ak3a, ck3a, rfl, Ok3a, h5⟩
  replace Ok1a := own_past Ok1a h5
  replace Ok2a := own_past Ok2a h5
  replace Hb := Lib.hid (thenB Hb.out h5)
  have t9 : w4.heap.size ≤ w5.heap.size := h5.size
  have Lk3a := own_lo Ok3a
  have Uk3a := own_hi Ok3a
  clear h5
  go_wp2_with fail
  refine (eqIntS_same Ak2a Ak3a ck2a ck3a _ _ (own_rd Ok2a) (own_rd Ok3a) (by omega)).mono ?_
  rintro e w6 ⟨rfl, h6⟩
  replace Ok1a := own_past Ok1a h6
  replace Ok2a := own_past Ok2a h6
  replace Ok3a := own_past Ok3a h6
  replace Hb := Lib.hid (thenB Hb.out h6)
  have t11 : w5.heap.size ≤ w6.heap.size := h6.size
  clear h6
  go_wp2_with fail
  go_ret
  exact ⟨rfl, Hb.out⟩

set_option maxRecDepth 100000 in
theorem lifted (os : Os) (started : os.Started) (H : Type) (enc : TypeId × Value → H) :
    ReturnsInHanded {} Try.checked os 3 .any (Rows.fnExactFormatSequenceSpec.pre6 enc Try.prog Try.f3 Rows.fnExactFormatSequenceRow.domain false) (Rows.fnExactFormatSequenceSpec.post enc Try.prog Try.f3 false true false false) := by
  refine returnsInHanded_of_change (C := Try.checked) own started (by kernel_rfl) Try.func3
    (ChangeSpec.witness6 (enc := enc) (C := Try.checked) false ⟨#[], #[.slice none 0 0], []⟩ 8 (by kernel_rfl) (by kernel_rfl) (by kernel_rfl) (by kernel_rfl)) ?_
  intro W base args ds gs before hval0 hW hcnd _
  have hval : ∀ (j : Nat) t v, Try.f3.params[j]? = some t → args[j]? = some v → Value.okWide Try.prog W .any base t v := hval0
  have hW' := hW
  obtain ⟨p, q, hA0, hV, rfl, hfz, hnd⟩ := hW
  have hA : DataW.TrodAll enc Try.prog W 0 (fun _ => true) true Try.f3.params.toList args.toList ds p := hA0
  rw [Try.params3] at hA hval
  obtain ⟨v0, vs0, d0, ds0, p0, q0, hargs, rfl, rfl, h0, g0⟩ := trodAll_cons hA
  obtain ⟨rfl, rfl, rfl⟩ := trodAll_nil g0
  obtain rfl : args = #[v0] := by cases args; simp_all
  obtain ⟨rfl, rfl⟩ := trodVars_none hV
  have k0 := h0
  have lt0 : ∀ x ∈ p0, x.block < W.heap.size := by obtain ⟨m, hm⟩ := k0; exact DataW.trod_lt m _ _ _ hm
  obtain ⟨A0, z0, c0, rfl, l0, m0, r0, i0⟩ := arg_ints Try.underlying22 Try.underlying3 (by kernel_rfl) (hval 0 22 v0 rfl rfl) h0
  clear hA0 hval0
  refine (walkw W A0 z0 c0 l0 m0 r0 i0).mono fun e W' ⟨he, bel⟩ => ?_
  subst he
  exact ⟨_, rfl, _, _, _, [], _, [], hW', trodAll_mk1 (shut_bool Try.underlying4 _), (trodAll_cons_mk (Below.trod laidOut (by kernel_rfl) (of_decide_eq_true (by kernel_rfl)) k0 bel lt0) trodAll_mk0), rfl, bel.frame _, fun h => by cases h⟩
theorem over : Rows.fnExactFormatSequenceRow.holds Try.pinned (OpenSpec.ofChange Rows.fnExactFormatSequenceSpec) :=
  OpenClaim.holds_of_wide 3 Try.f3 rfl rfl rfl rfl rfl rfl rfl ⟨rfl, rfl, rfl, rfl, rfl⟩ rfl rfl rfl rfl rfl (by kernel_rfl) Try.func3 (by kernel_rfl)
    (of_decide_eq_true (by kernel_rfl)) (by unfold Func.isWrapper; first | (rw [if_pos (by decide +kernel)]; kernel_rfl) | (rw [if_neg (by decide +kernel)]; exact ⟨rfl, rfl⟩))
    (fun os started H enc _ => lifted os started H enc)
theorem proved : Rows.FnExactFormatSequenceSaid := over

end Go.Proofs.Ytnihnobnhihoiaa.formatSequence
