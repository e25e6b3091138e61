/- The program's FormatModulator returns what the reference's returns, for all arguments, and leaves them as they were. No condition. -/
import Derived.Test.YtnihnobnhihoiaaFmtM
import Derived.Test.YtnihnobnhihoiaaModArg
namespace Go.Proofs.Ytnihnobnhihoiaa.formatModulator
open Go.ChangeShapes Go.WideShapes Go.ChangeAt Go.RowKit
set_option linter.unusedVariables false
set_option linter.unusedSimpArgs false
set_option maxRecDepth 100000 in
set_option maxHeartbeats 1000000 in
theorem walkw (w : World) (l s : Int) (A : Option Addr) (x : List Int) (c : Nat) (l0 : x.length ≤ c) (m0 : c ≤ maxLen) (r0 : Rd w w.heap.size A x) :
    Calls Try.prog 4 #[.agg #[.int .i64 l, .int .i64 s, .slice A x.length c]] w fun e w' => e = .returned (.bool true) ∧ Below w.heap.size w w' := by
  unfold maxLen at m0
  have b0 : x.length ≤ 9223372036854775807 := by omega
  have Hr := Lib.hid r0
  clear r0 l0 m0
  have Hb : Hid (Below w.heap.size w w) := Below.refl _ _
  have bx : Below w.heap.size w (w.alloc (.cells #[.int .i64 l, .int .i64 s, .slice A x.length c] 30)) := (Below.refl _ _).alloc (Nat.le_refl _) _
  have B0 := Blk.new w 30 #[.int .i64 l, .int .i64 s, .slice A x.length c]
  have VB0 : w.heap.size < (w.alloc (.cells #[.int .i64 l, .int .i64 s, .slice A x.length c] 30)).heap.size := by simp
  replace Hb := Lib.hid (thenB Hb.out bx)
  clear bx
  go_enter Try.func4, Try.ntmps4
  have B0c0 := B0.cell 0
  have B0c1 := B0.cell 1
  have B0c2 := B0.cell 2
  simp at B0c0 B0c1 B0c2
  go_wp2_with fail
  refine (szModulator_any A c x.length l s 1048576 _ b0 (by omega) (by omega)).mono ?_
  rintro e w1 ⟨⟨v1, rfl, hv1⟩, h1⟩
  replace B0 := B0.past h1
  replace Hb := Lib.hid (thenB Hb.out h1)
  have t2 : (w.alloc (.cells #[.int .i64 l, .int .i64 s, .slice A x.length c] 30)).heap.size ≤ w1.heap.size := h1.size
  clear h1
  by_cases n1 : x.length ≤ 1048576
  case neg =>
    have v1n : v1 < 0 := by omega
    clear hv1
    go_wp2_with fail
    go_ret
    exact ⟨rfl, Hb.out⟩
  have v1n : 0 ≤ v1 := by omega
  clear hv1 b0
  obtain ⟨Y, hY⟩ : ∃ Y, Y = bs (fmtMI l s x) := ⟨_, rfl⟩
  have HS : Hid (∀ W A c, Rd W W.heap.size A x → x.length ≤ c ∧ c ≤ maxLen → Calls Try.prog 10 #[.agg #[.int .i64 l, .int .i64 s, .slice A x.length c]] W fun e w' => e = .returned (.string Y) ∧ Below W.heap.size W w') := fun W A c h k => by rw [hY]; exact specFormatM_any l s A c x W h n1 k.1 (by have := k.2; unfold maxLen at this; exact this)
  have HG : Hid (∀ W A c, Rd W W.heap.size A x → Calls Try.prog 12 #[.agg #[.int .i64 l, .int .i64 s, .slice A x.length c]] W fun e w' => e = .returned (.string Y) ∧ Below W.heap.size W w') := fun W A c h => by rw [hY]; exact implFormatM_any l s A c x W h n1
  clear hY
  clear B0c0 B0c1 B0c2
  have B0c0 := B0.cell 0
  have B0c1 := B0.cell 1
  have B0c2 := B0.cell 2
  simp at B0c0 B0c1 B0c2
  go_wp2_with fail
  refine (toModulator_any l s A c x _ (Hr.out.past Hb.out) n1).mono ?_
  rintro e w2 ⟨Ak, ck, rfl, Ok, h2⟩
  replace B0 := B0.past h2
  replace Hb := Lib.hid (thenB Hb.out h2)
  have t3 : w1.heap.size ≤ w2.heap.size := h2.size
  have Lk := own_lo Ok
  have Uk := own_hi Ok
  clear h2
  clear B0c0 B0c1 B0c2
  have B0c0 := B0.cell 0
  have B0c1 := B0.cell 1
  have B0c2 := B0.cell 2
  simp at B0c0 B0c1 B0c2
  go_wp2_with fail
  refine (HS.out _ Ak ck (own_rd Ok) (own_cap Ok)).mono ?_
  rintro e w3 ⟨rfl, h3⟩
  replace Ok := own_past Ok h3
  replace B0 := B0.past h3
  replace Hb := Lib.hid (thenB Hb.out h3)
  have t4 : w2.heap.size ≤ w3.heap.size := h3.size
  clear h3
  clear Ok Lk Uk
  clear B0c0 B0c1 B0c2
  have B0c0 := B0.cell 0
  have B0c1 := B0.cell 1
  have B0c2 := B0.cell 2
  simp at B0c0 B0c1 B0c2
  go_wp2_with fail
  refine (toModulator_any l s A c x _ (Hr.out.past Hb.out) n1).mono ?_
  rintro e w4 ⟨Ag, cg, rfl, Og, h4⟩
  replace B0 := B0.past h4
  replace Hb := Lib.hid (thenB Hb.out h4)
  have t5 : w3.heap.size ≤ w4.heap.size := h4.size
  have Lg := own_lo Og
  have Ug := own_hi Og
  clear h4
  have bx : Below w4.heap.size w4 (w4.alloc (.cells #[.int .i64 l, .int .i64 s, .slice Ag x.length cg] 35)) := (Below.refl _ _).alloc (Nat.le_refl _) _
  have S0 := Blk.new w4 35 #[.int .i64 l, .int .i64 s, .slice Ag x.length cg]
  have VS0 : w4.heap.size < (w4.alloc (.cells #[.int .i64 l, .int .i64 s, .slice Ag x.length cg] 35)).heap.size := by simp
  replace Og := own_past Og bx
  replace B0 := B0.past bx
  replace Hb := Lib.hid (thenB Hb.out bx)
  clear bx
  clear B0c0 B0c1 B0c2
  have B0c0 := B0.cell 0
  have B0c1 := B0.cell 1
  have B0c2 := B0.cell 2
  have S0c0 := S0.cell 0
  have S0c1 := S0.cell 1
  have S0c2 := S0.cell 2
  simp at B0c0 B0c1 B0c2 S0c0 S0c1 S0c2
  go_wp2_with fail
  refine (HG.out _ Ag cg (own_rd Og)).mono ?_
  rintro e w5 ⟨rfl, h5⟩
  replace Og := own_past Og h5
  replace B0 := B0.past h5
  replace S0 := S0.past h5
  replace Hb := Lib.hid (thenB Hb.out h5)
  have t7 : (w4.alloc (.cells #[.int .i64 l, .int .i64 s, .slice Ag x.length cg] 35)).heap.size ≤ w5.heap.size := h5.size
  clear h5
  go_wp2_with fail
  have bx : Below w5.heap.size w5 w5.drew := (Below.refl _ _).drew
  replace Og := own_past Og bx
  replace B0 := B0.past bx
  replace S0 := S0.past bx
  replace Hb := Lib.hid (thenB Hb.out bx)
  clear bx
  have t8 : w5.heap.size ≤ w5.drew.heap.size := Nat.le_refl _
  clear B0c0 B0c1 B0c2 S0c0 S0c1 S0c2
  have B0c0 := B0.cell 0
  have B0c1 := B0.cell 1
  have B0c2 := B0.cell 2
  have S0c0 := S0.cell 0
  have S0c1 := S0.cell 1
  have S0c2 := S0.cell 2
  simp at B0c0 B0c1 B0c2 S0c0 S0c1 S0c2
  go_wp2_with fail
  go_region_held3 (fun w' => w'.cell? ⟨w4.heap.size, 0, none⟩ = some (.int .i64 l) ∧ w'.cell? ⟨w4.heap.size, 1, none⟩ = some (.int .i64 s) ∧ w'.cell? ⟨w4.heap.size, 2, none⟩ = some (.slice Ag x.length cg) ∧ w'.cell? ⟨w.heap.size, 0, none⟩ = some (.int .i64 l) ∧ w'.cell? ⟨w.heap.size, 1, none⟩ = some (.int .i64 s) ∧ w'.cell? ⟨w.heap.size, 2, none⟩ = some (.slice A x.length c)) (first | go_keep)
    (first
      | (go_at_call 11; clear B0c0 B0c1 B0c2 S0c0 S0c1 S0c2; have B0c0 := B0.cell 0; have B0c1 := B0.cell 1; have B0c2 := B0.cell 2; have S0c0 := S0.cell 0; have S0c1 := S0.cell 1; have S0c2 := S0.cell 2; simp at B0c0 B0c1 B0c2 S0c0 S0c1 S0c2; refine (toModulator_any l s A c x _ (Hr.out.past Hb.out) n1).mono ?_; rintro e w6 ⟨Am, cm, rfl, Om, h6⟩; replace Og := own_past Og h6; replace B0 := B0.past h6; replace S0 := S0.past h6; replace Hb := Lib.hid (thenB Hb.out h6); have t9 : w5.drew.heap.size ≤ w6.heap.size := h6.size; have Lm := own_lo Om; have Um := own_hi Om; clear h6; clear B0c0 B0c1 B0c2 S0c0 S0c1 S0c2; have B0c0 := B0.cell 0; have B0c1 := B0.cell 1; have B0c2 := B0.cell 2; have S0c0 := S0.cell 0; have S0c1 := S0.cell 1; have S0c2 := S0.cell 2; simp at B0c0 B0c1 B0c2 S0c0 S0c1 S0c2)
      | (go_at_call 13; clear B0c0 B0c1 B0c2 S0c0 S0c1 S0c2; have B0c0 := B0.cell 0; have B0c1 := B0.cell 1; have B0c2 := B0.cell 2; have S0c0 := S0.cell 0; have S0c1 := S0.cell 1; have S0c2 := S0.cell 2; simp at B0c0 B0c1 B0c2 S0c0 S0c1 S0c2; refine (eqModulator_same Ag Am cg cm x l s _ (own_rd Og) (own_rd Om) (by omega)).mono ?_; rintro e w7 ⟨rfl, h7⟩; replace Og := own_past Og h7; replace Om := own_past Om h7; replace B0 := B0.past h7; replace S0 := S0.past h7; replace Hb := Lib.hid (thenB Hb.out h7); have t10 : w6.heap.size ≤ w7.heap.size := h7.size; clear h7; clear B0c0 B0c1 B0c2 S0c0 S0c1 S0c2; have B0c0 := B0.cell 0; have B0c1 := B0.cell 1; have B0c2 := B0.cell 2; have S0c0 := S0.cell 0; have S0c1 := S0.cell 1; have S0c2 := S0.cell 2; simp at B0c0 B0c1 B0c2 S0c0 S0c1 S0c2))
  go_wp2_with fail
  go_ret
  exact ⟨rfl, Hb.out⟩
set_option maxRecDepth 100000 in
theorem lifted (os : Os) (started : os.Started) (H : Type) (enc : TypeId × Value → H) :
    ReturnsInHanded {} Try.checked os 4 .any (Rows.fnExactFormatModulatorSpec.pre6 enc Try.prog Try.f4 Rows.fnExactFormatModulatorRow.domain false) (Rows.fnExactFormatModulatorSpec.post enc Try.prog Try.f4 false true false false) := by
  refine returnsInHanded_of_change (C := Try.checked) own started (by kernel_rfl) Try.func4
    (ChangeSpec.witness6 (enc := enc) (C := Try.checked) false ⟨#[], #[.agg #[.int .i64 0, .int .i64 0, .slice none 0 0]], []⟩ 8 (by kernel_rfl) (by kernel_rfl) (by kernel_rfl) (by kernel_rfl)) ?_
  intro W base args ds gs before hval0 hW hcnd _
  have hval : ∀ (j : Nat) t v, Try.f4.params[j]? = some t → args[j]? = some v → Value.okWide Try.prog W .any base t v := hval0
  have hW' := hW
  obtain ⟨p, q, hA0, hV, rfl, hfz, hnd⟩ := hW
  have hA : DataW.TrodAll enc Try.prog W 0 (fun _ => true) true Try.f4.params.toList args.toList ds p := hA0
  rw [Try.params4] at hA hval
  obtain ⟨v0, vs0, d0, ds0, p0, q0, hargs, rfl, rfl, h0, g0⟩ := trodAll_cons hA
  obtain ⟨rfl, rfl, rfl⟩ := trodAll_nil g0
  obtain rfl : args = #[v0] := by cases args; simp_all
  obtain ⟨rfl, rfl⟩ := trodVars_none hV
  have k0 := h0
  have lt0 : ∀ x ∈ p0, x.block < W.heap.size := by obtain ⟨m, hm⟩ := k0; exact DataW.trod_lt m _ _ _ hm
  obtain ⟨L0, S0, A0, X0, C0, rfl, la0, ma0, ra0⟩ := arg_mo Try.underlying30 Try.underlying28 (by kernel_rfl) (by refine ⟨by kernel_rfl, by kernel_rfl, by kernel_rfl, by kernel_rfl⟩) (by refine ⟨by kernel_rfl, by kernel_rfl, by kernel_rfl, by kernel_rfl⟩) Try.underlying3 Try.underlying3 Try.underlying22 Try.underlying3 (by kernel_rfl) (hval 0 30 v0 rfl rfl) h0
  clear hA0 hval0
  refine (walkw W L0 S0 A0 X0 C0 la0 ma0 ra0).mono fun e W' ⟨he, bel⟩ => ?_
  subst he
  exact ⟨_, rfl, _, _, _, [], _, [], hW', trodAll_mk1 (shut_bool Try.underlying4 _), (trodAll_cons_mk (Below.trod laidOut (by kernel_rfl) (of_decide_eq_true (by kernel_rfl)) k0 bel lt0) trodAll_mk0), rfl, bel.frame _, fun h => by cases h⟩
theorem over : Rows.fnExactFormatModulatorRow.holds Try.pinned (OpenSpec.ofChange Rows.fnExactFormatModulatorSpec) :=
  OpenClaim.holds_of_wide 4 Try.f4 rfl rfl rfl rfl rfl rfl rfl ⟨rfl, rfl, rfl, rfl, rfl⟩ rfl rfl rfl rfl rfl (by kernel_rfl) Try.func4 (by kernel_rfl)
    (of_decide_eq_true (by kernel_rfl)) (by unfold Func.isWrapper; first | (rw [if_pos (by decide +kernel)]; kernel_rfl) | (rw [if_neg (by decide +kernel)]; exact ⟨rfl, rfl⟩))
    (fun os started H enc _ => lifted os started H enc)
theorem proved : Rows.FnExactFormatModulatorSaid := over

end Go.Proofs.Ytnihnobnhihoiaa.formatModulator
