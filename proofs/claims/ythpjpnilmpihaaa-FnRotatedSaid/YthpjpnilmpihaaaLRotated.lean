/- The bits of the input 2 p - q with the step q, q of them, beginning with an error above -q, are a mechanical word of p and q with some phase. No condition. -/
import Derived.Test.YthpjpnilmpihaaaLawAcc
import Derived.Test.YthpjpnilmpihaaaBits
import Derived.Test.YthpjpnilmpihaaaPart
import Derived.Test.YthpjpnilmpihaaaPRun4
import Derived.Test.YthpjpnilmpihaaaMech
namespace Go.Proofs.Ythpjpnilmpihaaa.rotatedLaw
open Go.ChangeShapes Go.WideShapes Go.ChangeAt Go.RowKit
set_option linter.unusedVariables false
set_option linter.unusedSimpArgs false
set_option maxRecDepth 100000 in
set_option maxHeartbeats 1000000 in
theorem walkw (w : World) (A0 : Option Addr) (n0 c0 : Nat) (l0 : n0 ≤ c0) (m0 : c0 ≤ maxLen) (r0 : RdB w w.heap.size A0 n0) :
    Calls Try.prog 9 #[.slice A0 n0 c0] w fun e w' => e = .returned (.bool true) ∧ Below w.heap.size w w' := by
  unfold maxLen at m0
  by_cases hn : n0 ≤ 1048576
  case neg =>
    have hx : 1048576 < n0 := by omega
    clear hn
    go_enter Try.func9, Try.ntmps9
    go_wp2
    go_ret
    exact ⟨rfl, Below.refl _ _⟩
  have Hb : Hid (Below w.heap.size w w) := Below.refl _ _
  go_enter Try.func9, Try.ntmps9
  go_wp2_with fail
  refine (at_any _ _ _ _ _ (r0.past Hb.out) (by omega) (by omega) (by omega)).mono ?_
  rintro e w1 ⟨⟨a1, rfl, a11, a12⟩, rfl⟩
  go_wp2_with fail
  obtain ⟨q, hnq⟩ : ∃ q : Nat, 1 + a1 % 40 = q := ⟨(1 + a1 % 40).toNat, by omega⟩
  rw [hnq]
  have lq : 1 ≤ (q : Int) := by omega
  have uq : (q : Int) ≤ 40 := by omega
  clear hnq
  go_wp2_with fail
  refine (at_any _ _ _ _ _ (r0.past Hb.out) (by omega) (by omega) (by omega)).mono ?_
  rintro e w1 ⟨⟨b1, rfl, b11, b12⟩, rfl⟩
  have x1 : IntKind.i64.wrap ((q : Int) + 1) = (q : Int) + 1 := Go.IntWalk.i64_in _ (by omega)
  have hzp : ((q : Int) + 1) ≠ 0 := by omega
  have ep : b1.tmod ((q : Int) + 1) = b1 % ((q : Int) + 1) := Int.tmod_eq_emod_of_nonneg (by omega)
  have lp : 0 ≤ b1 % ((q : Int) + 1) := Int.emod_nonneg _ hzp
  have up : b1 % ((q : Int) + 1) < ((q : Int) + 1) := Int.emod_lt_of_pos _ (by omega)
  have wp : IntKind.i64.wrap (b1 % ((q : Int) + 1)) = b1 % ((q : Int) + 1) := Go.IntWalk.i64_in _ (by omega)
  go_wp2_with fail
  obtain ⟨p, hp⟩ : ∃ p, p = b1 % ((q : Int) + 1) := ⟨_, rfl⟩
  rw [← hp]
  rw [← hp] at lp up
  clear x1 wp ep hp hzp
  go_wp2_with fail
  refine (order1_yes q _ (by omega) (by omega)).mono ?_
  rintro e w1 ⟨Am, cm, rfl, Om, h1⟩
  replace Hb := Lib.hid (thenB Hb.out h1)
  have t1 : w.heap.size ≤ w1.heap.size := h1.size
  have Lm := own_lo Om
  have Um := own_hi Om
  clear h1
  have bx : Below w1.heap.size w1 (w1.alloc (.cells #[.int .i64 2, .int .i64 q, .slice Am 1 cm] 46)) := (Below.refl _ _).alloc (Nat.le_refl _) _
  have B0 := Blk.new w1 46 #[.int .i64 2, .int .i64 q, .slice Am 1 cm]
  have VB0 : w1.heap.size < (w1.alloc (.cells #[.int .i64 2, .int .i64 q, .slice Am 1 cm] 46)).heap.size := by simp
  replace Om := own_past Om bx
  replace Hb := Lib.hid (thenB Hb.out bx)
  clear bx
  have B0c0 := B0.cell 0
  have B0c1 := B0.cell 1
  have B0c2 := B0.cell 2
  simp at B0c0 B0c1 B0c2
  go_wp2_with fail
  refine (at_any _ _ _ _ _ (r0.past Hb.out) (by omega) (by omega) (by omega)).mono ?_
  rintro e w2 ⟨⟨c1, rfl, c11, c12⟩, rfl⟩
  have x0 : IntKind.i64.wrap (2 * (q : Int)) = 2 * (q : Int) := Go.IntWalk.i64_in _ (by omega)
  have hza : (2 * (q : Int)) ≠ 0 := by omega
  have ea : c1.tmod (2 * (q : Int)) = c1 % (2 * (q : Int)) := Int.tmod_eq_emod_of_nonneg (by omega)
  have la : 0 ≤ c1 % (2 * (q : Int)) := Int.emod_nonneg _ hza
  have ua : c1 % (2 * (q : Int)) < (2 * (q : Int)) := Int.emod_lt_of_pos _ (by omega)
  have wa : IntKind.i64.wrap (c1 % (2 * (q : Int))) = c1 % (2 * (q : Int)) := Go.IntWalk.i64_in _ (by omega)
  go_wp2_with fail
  obtain ⟨a, ha⟩ : ∃ a, a = c1 % (2 * (q : Int)) - q + 1 := ⟨_, rfl⟩
  rw [← ha]
  have al : -(q : Int) < a := by omega
  have au : a ≤ (q : Int) := by omega
  clear wa ea la ua ha hza x0
  have bx : Below (w1.alloc (.cells #[.int .i64 2, .int .i64 q, .slice Am 1 cm] 46)).heap.size (w1.alloc (.cells #[.int .i64 2, .int .i64 q, .slice Am 1 cm] 46)) ((w1.alloc (.cells #[.int .i64 2, .int .i64 q, .slice Am 1 cm] 46)).alloc (.cells #[.int .i64 a] 3)) := (Below.refl _ _).alloc (Nat.le_refl _) _
  have Oa := own_cells (xs := [a]) (w1.alloc (.cells #[.int .i64 2, .int .i64 q, .slice Am 1 cm] 46)) #[.int .i64 a] (Nat.le_refl _) rfl (by simp [maxLen])
  simp only [World.size_alloc] at Oa
  have t3 : (w1.alloc (.cells #[.int .i64 2, .int .i64 q, .slice Am 1 cm] 46)).heap.size ≤ ((w1.alloc (.cells #[.int .i64 2, .int .i64 q, .slice Am 1 cm] 46)).alloc (.cells #[.int .i64 a] 3)).heap.size := bx.size
  replace Om := own_past Om bx
  replace B0 := B0.past bx
  replace Hb := Lib.hid (thenB Hb.out bx)
  clear bx
  have La := own_lo Oa
  have Ua := own_hi Oa
  have x2 : IntKind.i64.wrap (2 * p) = 2 * p := Go.IntWalk.i64_in _ (by omega)
  have x3 : IntKind.i64.wrap (2 * p - (q : Int)) = 2 * p - (q : Int) := Go.IntWalk.i64_in _ (by omega)
  have bx : Below ((w1.alloc (.cells #[.int .i64 2, .int .i64 q, .slice Am 1 cm] 46)).alloc (.cells #[.int .i64 a] 3)).heap.size ((w1.alloc (.cells #[.int .i64 2, .int .i64 q, .slice Am 1 cm] 46)).alloc (.cells #[.int .i64 a] 3)) ((w1.alloc (.cells #[.int .i64 2, .int .i64 q, .slice Am 1 cm] 46)).alloc (.cells #[.int .i64 a] 3)).drew := (Below.refl _ _).drew
  replace Om := own_past Om bx
  replace Oa := own_past Oa bx
  replace B0 := B0.past bx
  replace Hb := Lib.hid (thenB Hb.out bx)
  clear bx
  have t4 : ((w1.alloc (.cells #[.int .i64 2, .int .i64 q, .slice Am 1 cm] 46)).alloc (.cells #[.int .i64 a] 3)).heap.size ≤ ((w1.alloc (.cells #[.int .i64 2, .int .i64 q, .slice Am 1 cm] 46)).alloc (.cells #[.int .i64 a] 3)).drew.heap.size := Nat.le_refl _
  clear B0c0 B0c1 B0c2
  have B0c0 := B0.cell 0
  have B0c1 := B0.cell 1
  have B0c2 := B0.cell 2
  simp at B0c0 B0c1 B0c2
  go_wp2_with fail
  go_region_held3 (fun w' => w'.cell? ⟨w1.heap.size, 0, none⟩ = some (.int .i64 2) ∧ w'.cell? ⟨w1.heap.size, 1, none⟩ = some (.int .i64 q) ∧ w'.cell? ⟨w1.heap.size, 2, none⟩ = some (.slice Am 1 cm)) (first | go_keep)
    (first
      | (go_at_call 37; clear B0c0 B0c1 B0c2; have B0c0 := B0.cell 0; have B0c1 := B0.cell 1; have B0c2 := B0.cell 2; simp at B0c0 B0c1 B0c2; refine (constant_any (2 * p - (q : Int)) q _ (by omega)).mono ?_; rintro e w2 ⟨Ax, cx, rfl, Ox, h2⟩; replace Om := own_past Om h2; replace Oa := own_past Oa h2; replace B0 := B0.past h2; replace Hb := Lib.hid (thenB Hb.out h2); have t5 : ((w1.alloc (.cells #[.int .i64 2, .int .i64 q, .slice Am 1 cm] 46)).alloc (.cells #[.int .i64 a] 3)).drew.heap.size ≤ w2.heap.size := h2.size; have Lx := own_lo Ox; have Ux := own_hi Ox; clear h2; rw [List.length_replicate]; clear B0c0 B0c1 B0c2; have B0c0 := B0.cell 0; have B0c1 := B0.cell 1; have B0c2 := B0.cell 2; simp at B0c0 B0c1 B0c2)
      | (go_at_call 36; clear B0c0 B0c1 B0c2; have B0c0 := B0.cell 0; have B0c1 := B0.cell 1; have B0c2 := B0.cell 2; simp at B0c0 B0c1 B0c2; refine (run1_yes q (2 * p - (q : Int)) a q Am cm _ _ Ax cx _ (own_rd Om) (own_rd Oa) (own_rd Ox) (by omega) (by omega) (by omega) (by omega) (by omega) (by omega) (by omega)).mono ?_; rintro e w3 ⟨Ay, cy, Ae, ce, A2, c2, rfl, Oy, h3⟩; replace Om := own_past Om h3; replace Oa := own_past Oa h3; replace Ox := own_past Ox h3; replace B0 := B0.past h3; replace Hb := Lib.hid (thenB Hb.out h3); have t6 : w2.heap.size ≤ w3.heap.size := h3.size; have Ly := own_lo Oy; have Uy := own_hi Oy; clear h3; clear B0c0 B0c1 B0c2; have B0c0 := B0.cell 0; have B0c1 := B0.cell 1; have B0c2 := B0.cell 2; simp at B0c0 B0c1 B0c2))
  clear B0c0 B0c1 B0c2
  have B0c0 := B0.cell 0
  have B0c1 := B0.cell 1
  have B0c2 := B0.cell 2
  simp at B0c0 B0c1 B0c2
  go_wp2_with fail
  refine (bits1_yes q (2 * p - (q : Int)) a q Ay cy _ (own_rd Oy) (by omega) (by omega) (by omega)).mono ?_
  rintro e w4 ⟨Aw, cw, rfl, Ow, h4⟩
  replace Om := own_past Om h4
  replace Oa := own_past Oa h4
  replace Ox := own_past Ox h4
  replace Oy := own_past Oy h4
  replace B0 := B0.past h4
  replace Hb := Lib.hid (thenB Hb.out h4)
  have t7 : w3.heap.size ≤ w4.heap.size := h4.size
  have Lw := own_lo Ow
  have Uw := own_hi Ow
  clear h4
  have tn : ((q : Int) != (q : Int)) = false := by simp
  have tp : (p != p) = false := by simp
  have hcall := fun W h => sumOf_yes Aw cw q (bits1 q (2 * p - (q : Int)) a q) W h bits1_length (wordOk_seqOk (bits1_word (by omega)))
  rw [rot_sum (by omega) lp (by omega) al au] at hcall
  have Hc := Lib.hid hcall
  clear hcall
  clear B0c0 B0c1 B0c2
  have B0c0 := B0.cell 0
  have B0c1 := B0.cell 1
  have B0c2 := B0.cell 2
  simp at B0c0 B0c1 B0c2
  go_wp2_with fail
  refine (Hc.out _ (own_rd Ow)).mono ?_
  rintro e w5 ⟨rfl, rfl⟩
  clear Hc
  have hph := phase_bd (q := q) (a := a) (by omega) al au
  have hrm := rot_mech (q := q) (p := p) (a := a) (by omega) lp (by omega) al au q
  obtain ⟨f, hf⟩ : ∃ f : Nat, phase q a = f := ⟨(phase q a).toNat, by omega⟩
  rw [hf] at hph hrm
  have rw_ := Lib.hid (own_rd Ow)
  obtain ⟨B, hB⟩ : ∃ B, B = bits1 q (2 * p - (q : Int)) a q := ⟨_, rfl⟩
  rw [← hB] at hrm rw_
  have hBl : B.length = q := by rw [hB]; exact bits1_length
  have HBl := Lib.hid hBl
  clear hBl
  have Hrm := Lib.hid hrm
  clear hrm
  clear hB hf
  clear B0c0 B0c1 B0c2
  clear B0 Om Lm Um Oa La Ua Ox Lx Ux Oy Ly Uy Ow Lw Uw
  go_wp2_with fail
  go_loopw [14] (fun i wr => ∃ k : Nat, k ≤ f ∧ i = .int .i64 k ∧ Hid (Below w4.heap.size w4 wr)) (fun i _ => q - (intOf i).toNat)
  case atStart => exact ⟨0, by omega, rfl, Below.refl _ _⟩
  case round =>
    obtain ⟨k, hk, rfl, HW⟩ := hrel
    have hkq : (k : Int) < (q : Int) := by omega
    go_wp2_with fail
    refine (implMech_yes p q k q wr (by omega) (by omega) lp (by omega) (by omega) (by omega) (by omega)).mono ?_; rintro e w9 ⟨Au, cu, rfl, Ou, h9⟩
    have HW9 := Lib.hid (HW.out.trans (h9.mono HW.out.size))
    have hcall := ints_any Au Aw cu cw (mech p q k q) B w9 (own_rd Ou) (rw_.out.past HW9.out) (by rw [mech_length]; omega)
    rw [mech_length, HBl.out] at hcall
    have Hc := Lib.hid hcall
    clear hcall h9 Ou
    rcases Bool.eq_false_or_eq_true (eqB (mech p q k q) B) with hq | hq
    · rw [hq] at Hc
      go_wp2_with fail
      refine Hc.out.mono ?_; rintro e w10 ⟨rfl, h10⟩
      go_wp2
      go_ret
      exact ⟨rfl, thenB Hb.out (HW9.out.trans (h10.mono HW9.out.size))⟩
    · have hne : k ≠ f := by
        intro e; subst e
        rw [← Hrm.out, eqB_self] at hq; cases hq
      rw [hq] at Hc
      go_wp2_with fail
      refine Hc.out.mono ?_; rintro e w10 ⟨rfl, h10⟩
      go_wp2
      go_roundw
      case rel => exact ⟨k + 1, by omega, by go_num, HW9.out.trans (h10.mono HW9.out.size)⟩
      case measure => simp [intOf]; omega
set_option maxRecDepth 100000 in
theorem lifted (os : Os) (started : os.Started) (H : Type) (enc : TypeId × Value → H) :
    ReturnsInHanded {} Try.checked os 9 .any (Rows.fnRotatedSpec.pre6 enc Try.prog Try.f9 Rows.fnRotatedRow.domain false) (Rows.fnRotatedSpec.post enc Try.prog Try.f9 false true false false) := by
  refine returnsInHanded_of_change (C := Try.checked) own started (by kernel_rfl) Try.func9
    (ChangeSpec.witness6 (enc := enc) (C := Try.checked) false ⟨#[], #[.slice none 0 0], []⟩ 8 (by kernel_rfl) (by kernel_rfl) (by kernel_rfl) (by kernel_rfl)) ?_
  intro W base args ds gs before hval0 hW hcnd _
  have hval : ∀ (j : Nat) t v, Try.f9.params[j]? = some t → args[j]? = some v → Value.okWide Try.prog W .any base t v := hval0
  have hW' := hW
  obtain ⟨p, q, hA0, hV, rfl, hfz, hnd⟩ := hW
  have hA : DataW.TrodAll enc Try.prog W 0 (fun _ => true) true Try.f9.params.toList args.toList ds p := hA0
  rw [Try.params9] at hA hval
  obtain ⟨v0, vs0, d0, ds0, p0, q0, hargs, rfl, rfl, h0, g0⟩ := trodAll_cons hA
  obtain ⟨rfl, rfl, rfl⟩ := trodAll_nil g0
  obtain rfl : args = #[v0] := by cases args; simp_all
  obtain ⟨rfl, rfl⟩ := trodVars_none hV
  have k0 := h0
  have lt0 : ∀ x ∈ p0, x.block < W.heap.size := by obtain ⟨m, hm⟩ := k0; exact DataW.trod_lt m _ _ _ hm
  obtain ⟨A0, z0, c0, rfl, l0, m0, r0⟩ := arg_bytes Try.underlying22 Try.underlying5 (by kernel_rfl) (hval 0 22 v0 rfl rfl) h0
  clear hA0 hval0
  refine (walkw W A0 z0 c0 l0 m0 r0).mono fun e W' ⟨he, bel⟩ => ?_
  subst he
  exact ⟨_, rfl, _, _, _, [], _, [], hW', trodAll_mk1 (shut_bool Try.underlying4 _), (trodAll_cons_mk (Below.trod laidOut (by kernel_rfl) (of_decide_eq_true (by kernel_rfl)) k0 bel lt0) trodAll_mk0), rfl, bel.frame _, fun h => by cases h⟩
theorem over : Rows.fnRotatedRow.holds Try.pinned (OpenSpec.ofChange Rows.fnRotatedSpec) :=
  OpenClaim.holds_of_wide 9 Try.f9 rfl rfl rfl rfl rfl rfl rfl ⟨rfl, rfl, rfl, rfl, rfl⟩ rfl rfl rfl rfl rfl (by kernel_rfl) Try.func9 (by kernel_rfl)
    (of_decide_eq_true (by kernel_rfl)) (by unfold Func.isWrapper; first | (rw [if_pos (by decide +kernel)]; kernel_rfl) | (rw [if_neg (by decide +kernel)]; exact ⟨rfl, rfl⟩))
    (fun os started H enc _ => lifted os started H enc)
theorem proved : Rows.FnRotatedSaid := over

end Go.Proofs.Ythpjpnilmpihaaa.rotatedLaw
