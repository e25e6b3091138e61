/- The carries of the first stage for a constant input are the mechanical word of the input and the modulus, with the first rest as phase. No condition. -/
import Derived.Test.YteabibkbmigpaaaLawAcc
import Derived.Test.YteabibkbmigpaaaMech
import Derived.Test.YteabibkbmigpaaaPart
namespace Go.Proofs.Yteabibkbmigpaaa.carryWord
open Go.ChangeShapes Go.WideShapes Go.ChangeAt Go.RowKit
set_option linter.unusedVariables false
set_option linter.unusedSimpArgs false
set_option maxRecDepth 100000 in
set_option maxHeartbeats 4000000 in
theorem walkw (w : World) (A0 : Option Addr) (n0 c0 : Nat) (l0 : n0 ≤ c0) (m0 : c0 ≤ maxLen) (r0 : RdB w w.heap.size A0 n0) :
    Calls Try.prog 12 #[.slice A0 n0 c0] w fun e w' => e = .returned (.bool true) ∧ Below w.heap.size w w' := by
  unfold maxLen at m0
  by_cases hn : n0 ≤ 1048576
  case neg =>
    have hx : 1048576 < n0 := by omega
    clear hn
    go_enter Try.func12, Try.ntmps12
    go_wp2
    go_ret
    exact ⟨rfl, Below.refl _ _⟩
  have Hb : Hid (Below w.heap.size w w) := Below.refl _ _
  go_enter Try.func12, Try.ntmps12
  go_wp2_with fail
  refine (MakeAccumulator_any _ _ _ _ (r0.past Hb.out) (by omega)).mono ?_
  rintro e w1 ⟨o, m, rfl, o1, o2, m1, m2, h1⟩
  replace Hb := Lib.hid (thenB Hb.out h1)
  have t1 : w.heap.size ≤ w1.heap.size := h1.size
  clear h1
  have bx : Below w1.heap.size w1 (w1.alloc (.cells #[.int .i64 o, .int .i64 m] 24)) := (Below.refl _ _).alloc (Nat.le_refl _) _
  have B0 := Blk.new w1 24 #[.int .i64 o, .int .i64 m]
  have VB0 : w1.heap.size < (w1.alloc (.cells #[.int .i64 o, .int .i64 m] 24)).heap.size := by simp
  replace Hb := Lib.hid (thenB Hb.out bx)
  clear bx
  have bx : Below (w1.alloc (.cells #[.int .i64 o, .int .i64 m] 24)).heap.size (w1.alloc (.cells #[.int .i64 o, .int .i64 m] 24)) (w1.alloc (.cells #[.int .i64 o, .int .i64 m] 24)).drew := (Below.refl _ _).drew
  replace B0 := B0.past bx
  replace Hb := Lib.hid (thenB Hb.out bx)
  clear bx
  have t3 : (w1.alloc (.cells #[.int .i64 o, .int .i64 m] 24)).heap.size ≤ (w1.alloc (.cells #[.int .i64 o, .int .i64 m] 24)).drew.heap.size := Nat.le_refl _
  have B0c0 := B0.cell 0
  have B0c1 := B0.cell 1
  simp at B0c0 B0c1
  go_wp2_with fail
  go_region_held3 (fun w' => w'.cell? ⟨w1.heap.size, 0, none⟩ = some (.int .i64 o) ∧ w'.cell? ⟨w1.heap.size, 1, none⟩ = some (.int .i64 m)) (first | go_keep)
    (first
      | (go_at_call 17; clear B0c0 B0c1; have B0c0 := B0.cell 0; have B0c1 := B0.cell 1; simp at B0c0 B0c1; refine (fresh_any _ _ _ _ _ (r0.past Hb.out) (by omega) (by omega) (by omega)).mono ?_; rintro e w2 ⟨Af, cf, nf, rfl, hnf, Rf, h2⟩; replace B0 := B0.past h2; replace Hb := Lib.hid (thenB Hb.out h2); have t4 : (w1.alloc (.cells #[.int .i64 o, .int .i64 m] 24)).drew.heap.size ≤ w2.heap.size := h2.size; clear h2; clear B0c0 B0c1; have B0c0 := B0.cell 0; have B0c1 := B0.cell 1; simp at B0c0 B0c1)
      | (go_at_call 16; clear B0c0 B0c1; have B0c0 := B0.cell 0; have B0c1 := B0.cell 1; simp at B0c0 B0c1; refine (MakeRests_any _ _ _ _ _ _ Rf (by omega) (by omega) (by omega) (by omega)).mono ?_; rintro e w3 ⟨As, cs, s, rfl, Hs, Os, h3⟩; replace B0 := B0.past h3; replace Hb := Lib.hid (thenB Hb.out h3); replace Rf := Rf.past h3; have t5 : w2.heap.size ≤ w3.heap.size := h3.size; have Ls := own_lo Os; have Us := own_hi Os; clear h3; have Hhs := Lib.hid Hs; clear Hs; clear Rf; clear B0c0 B0c1; have B0c0 := B0.cell 0; have B0c1 := B0.cell 1; simp at B0c0 B0c1))
  obtain ⟨hsl, hsr⟩ := Hhs.out
  clear Hhs
  rw [hsl]
  have Hsl := Lib.hid hsl
  clear hsl
  have Hsr := Lib.hid hsr
  clear hsr
  have bx : Below w3.heap.size w3 w3.drew := (Below.refl _ _).drew
  replace Os := own_past Os bx
  replace B0 := B0.past bx
  replace Hb := Lib.hid (thenB Hb.out bx)
  clear bx
  have t6 : w3.heap.size ≤ w3.drew.heap.size := Nat.le_refl _
  clear B0c0 B0c1
  have B0c0 := B0.cell 0
  have B0c1 := B0.cell 1
  simp at B0c0 B0c1
  go_wp2_with fail
  go_region_held3 (fun w' => w'.cell? ⟨w1.heap.size, 0, none⟩ = some (.int .i64 o) ∧ w'.cell? ⟨w1.heap.size, 1, none⟩ = some (.int .i64 m)) (first | go_keep)
    (first
      | (go_at_call 48; clear B0c0 B0c1; have B0c0 := B0.cell 0; have B0c1 := B0.cell 1; simp at B0c0 B0c1; refine (at_any _ _ _ _ _ (r0.past Hb.out) (by omega) (by omega) (by omega)).mono ?_; rintro e w4 ⟨⟨av, rfl, av1, av2⟩, rfl⟩; have r0m : m ≠ 0 := (by omega); have r1 : av.tmod m = av % m := Int.tmod_eq_emod_of_nonneg av1; have r2 : IntKind.i64.wrap (av % m) = av % m := Go.IntWalk.i64_in _ (by have := Int.emod_nonneg av (show m ≠ 0 by omega); have := Int.emod_lt_of_pos av (show 0 < m by omega); omega); clear B0c0 B0c1; have B0c0 := B0.cell 0; have B0c1 := B0.cell 1; simp at B0c0 B0c1))
  clear r1 r2 r0m
  have hv0 := Int.emod_nonneg av (show m ≠ 0 by omega)
  have hv1 := Int.emod_lt_of_pos av (show 0 < m by omega)
  obtain ⟨v, hv⟩ : ∃ v, v = av % m := ⟨_, rfl⟩
  rw [← hv] at hv0 hv1 ⊢
  have Hv := Lib.hid hv
  clear hv
  clear B0c0 B0c1
  have B0c0 := B0.cell 0
  have B0c1 := B0.cell 1
  simp at B0c0 B0c1
  go_wp2_with fail
  refine (at_any _ _ _ _ _ (r0.past Hb.out) (by omega) (by omega) (by omega)).mono ?_
  rintro e w4 ⟨⟨bv, rfl, bv1, bv2⟩, rfl⟩
  go_wp2_with fail
  obtain ⟨n, hn2⟩ : ∃ n : Nat, bv % 100 = n := ⟨(bv % 100).toNat, by omega⟩
  rw [hn2]
  have hn3 : n ≤ 99 := by omega
  have Hn2 := Lib.hid hn2
  clear hn2
  have bx : Below w3.drew.heap.size w3.drew w3.drew.drew := (Below.refl _ _).drew
  replace Os := own_past Os bx
  replace B0 := B0.past bx
  replace Hb := Lib.hid (thenB Hb.out bx)
  clear bx
  have t7 : w3.drew.heap.size ≤ w3.drew.drew.heap.size := Nat.le_refl _
  clear B0c0 B0c1
  have B0c0 := B0.cell 0
  have B0c1 := B0.cell 1
  simp at B0c0 B0c1
  go_wp2_with fail
  go_region_held3 (fun w' => w'.cell? ⟨w1.heap.size, 0, none⟩ = some (.int .i64 o) ∧ w'.cell? ⟨w1.heap.size, 1, none⟩ = some (.int .i64 m)) (first | go_keep)
    (first
      | (go_at_call 44; clear B0c0 B0c1; have B0c0 := B0.cell 0; have B0c1 := B0.cell 1; simp at B0c0 B0c1; refine (constant_any v n _ (by omega)).mono ?_; rintro e w4 ⟨Ax, cx, rfl, Ox, h4⟩; replace Os := own_past Os h4; replace B0 := B0.past h4; replace Hb := Lib.hid (thenB Hb.out h4); have t8 : w3.drew.drew.heap.size ≤ w4.heap.size := h4.size; have Lx := own_lo Ox; have Ux := own_hi Ox; clear h4; rw [List.length_replicate]; have Hxr : Hid (Rests m (List.replicate n v)) := fun y hy => (by have := List.eq_of_mem_replicate hy; omega); clear B0c0 B0c1; have B0c0 := B0.cell 0; have B0c1 := B0.cell 1; simp at B0c0 B0c1)
      | (go_at_call 19; clear B0c0 B0c1; have B0c0 := B0.cell 0; have B0c1 := B0.cell 1; simp at B0c0 B0c1; refine (run_yes As o n m cs s Ax cx (List.replicate n v) _ (own_rd Os) (own_rd Ox) Hsl.out (by simp) Hsr.out o1 (by omega) m1 (by omega) Hxr.out (by omega)).mono ?_; rintro e w5 ⟨Ac0, cc0, rc, Ac1, cc1, Ac2, cc2, rfl, hrc, hec, Mc0, Oc1, Oc2, h5⟩; replace Os := own_past Os h5; replace Ox := own_past Ox h5; replace B0 := B0.past h5; replace Hb := Lib.hid (thenB Hb.out h5); have t9 : w4.heap.size ≤ w5.heap.size := h5.size; have Lc1 := own_lo Oc1; have Uc1 := own_hi Oc1; have Lc2 := own_lo Oc2; have Uc2 := own_hi Oc2; have Lc0 := Mc0.los; have Uc0 := Mc0.his; clear h5; have Hrc := Lib.hid hrc; clear hrc; have Hec := Lib.hid hec; clear hec; clear B0c0 B0c1; have B0c0 := B0.cell 0; have B0c1 := B0.cell 1; simp at B0c0 B0c1))
  have hj : 0 < s.length := by rw [Hsl.out]; omega
  have ho0 : (0 : Int) < (o : Int) := by omega
  have ho1 : 0 < o := by omega
  have bx : Below w5.heap.size w5 w5.drew := (Below.refl _ _).drew
  replace Os := own_past Os bx
  replace Ox := own_past Ox bx
  replace Oc1 := own_past Oc1 bx
  replace Oc2 := own_past Oc2 bx
  replace B0 := B0.past bx
  replace Hb := Lib.hid (thenB Hb.out bx)
  replace Mc0 := (Mc0).past bx
  clear bx
  have t10 : w5.heap.size ≤ w5.drew.heap.size := Nat.le_refl _
  clear B0c0 B0c1
  have B0c0 := B0.cell 0
  have B0c1 := B0.cell 1
  simp at B0c0 B0c1
  obtain ⟨gs, rfl, hgs1, hgs2⟩ := own_head Os hj
  have q0 := own_cell Os hj
  have hs0 := rests_getD m1 Hsr.out 0
  obtain ⟨s0, hs0e⟩ : ∃ s0, s0 = s.getD 0 0 := ⟨_, rfl⟩
  rw [← hs0e] at q0 hs0
  have Hs0 := Lib.hid hs0e
  clear hs0e
  clear B0c0 B0c1
  have B0c0 := B0.cell 0
  have B0c1 := B0.cell 1
  simp at B0c0 B0c1
  go_wp2_with fail
  go_region_held3 (fun w' => w'.cell? ⟨w1.heap.size, 0, none⟩ = some (.int .i64 o) ∧ w'.cell? ⟨w1.heap.size, 1, none⟩ = some (.int .i64 m) ∧ w'.cell? ⟨gs, 0, none⟩ = some (.int .i64 s0)) (first | go_keep)
    (first
      | (go_at_call 49; clear B0c0 B0c1; have B0c0 := B0.cell 0; have B0c1 := B0.cell 1; simp at B0c0 B0c1; refine (implMech_yes v m s0 n _ (by omega) (by omega) hv0 (by omega) hs0.1 hs0.2 (by omega)).mono ?_; rintro e w6 ⟨Aw, cw, rfl, Ow, h6⟩; replace Os := own_past Os h6; replace Ox := own_past Ox h6; replace Oc1 := own_past Oc1 h6; replace Oc2 := own_past Oc2 h6; replace B0 := B0.past h6; replace Hb := Lib.hid (thenB Hb.out h6); replace Mc0 := (Mc0).past h6; have t11 : w5.drew.heap.size ≤ w6.heap.size := h6.size; have Lw := own_lo Ow; have Uw := own_hi Ow; clear h6; have q1 := own_cell Os hj; rw [← Hs0.out] at q1; clear B0c0 B0c1; have B0c0 := B0.cell 0; have B0c1 := B0.cell 1; simp at B0c0 B0c1))
  have hml : rc.length = o := Hrc.out
  have hjr : 0 < rc.length := by omega
  have Hml := Lib.hid hml
  clear hml
  clear B0c0 B0c1
  have B0c0 := B0.cell 0
  have B0c1 := B0.cell 1
  simp at B0c0 B0c1
  obtain ⟨am, ham, hab, qm⟩ := Mc0.rdm.at_ hjr
  have d1 : w6.cell? (am.add 0) = some (.slice rc[0].A rc[0].xs.length rc[0].c) := qm 0 rc[0] (List.getElem?_eq_getElem hjr)
  rw [run_rowLen Hec.out (by omega) hjr] at d1
  have rr := Mc0.rdm.row hjr
  rw [run_row Hec.out (by omega) hjr, carr_mech m1 Hsr.out hj, ← Hs0.out] at rr
  have hcap := (own_cap (Mc0.row rc[0] (List.getElem_mem hjr))).1
  rw [run_rowLen Hec.out (by omega) hjr] at hcap
  obtain rfl := ham
  obtain ⟨r, hre⟩ : ∃ r, r = rc[0] := ⟨_, rfl⟩
  rw [← hre] at d1 rr hcap
  have Hre := Lib.hid hre
  clear hre
  have d1' : w6.cell? am = some (.slice r.A n r.c) := d1
  have Rr := Lib.hid rr
  clear rr qm
  have t1 : ((o : Int) == (o : Int)) = true := by simp
  have t2 : ((n : Int) == (n : Int)) = true := by simp
  go_wp2_with fail
  refine (ints_same r.A Aw r.c cw (mech v m s0 n) n _ Rr.out (own_rd Ow) (mech_length _ _ _ _) (by omega)).mono ?_
  rintro e w7 ⟨rfl, h7⟩
  have Rr2 := Lib.hid (Rr.out.past h7)
  replace d1 := (h7.cell (p := am.add 0) (by rw [block_add]; exact hab)).trans d1
  replace d1' := (h7.cell (p := am) hab).trans d1'
  replace Hb := Lib.hid (thenB Hb.out h7)
  clear h7
  have hcall := implIsBalanced_any r.A r.c (mech v m s0 n) w7 Rr2.out (by rw [mech_length]; omega) (by rw [mech_length]; exact hcap)
  rw [mech_length, mech_bal s0 (by omega) hv0 (by omega) (by omega)] at hcall
  have Hc := Lib.hid hcall
  clear hcall
  go_wp2_with fail
  refine (Hc.out).mono ?_
  rintro e w8 ⟨rfl, h8⟩
  go_wp2_with fail
  go_ret
  exact ⟨rfl, thenB Hb.out h8⟩
set_option maxRecDepth 100000 in
theorem lifted (os : Os) (started : os.Started) (H : Type) (enc : TypeId × Value → H) :
    ReturnsInHanded {} Try.checked os 12 .any (Rows.fnCarryWordSpec.pre6 enc Try.prog Try.f12 Rows.fnCarryWordRow.domain false) (Rows.fnCarryWordSpec.post enc Try.prog Try.f12 false true false false) := by
  refine returnsInHanded_of_change (C := Try.checked) own started (by kernel_rfl) Try.func12
    (ChangeSpec.witness6 (enc := enc) (C := Try.checked) false ⟨#[], #[.slice none 0 0], []⟩ 8 (by kernel_rfl) (by kernel_rfl) (by kernel_rfl) (by kernel_rfl)) ?_
  intro W base args ds gs before hval0 hW hcnd _
  have hval : ∀ (j : Nat) t v, Try.f12.params[j]? = some t → args[j]? = some v → Value.okWide Try.prog W .any base t v := hval0
  have hW' := hW
  obtain ⟨p, q, hA0, hV, rfl, hfz, hnd⟩ := hW
  have hA : DataW.TrodAll enc Try.prog W 0 (fun _ => true) true Try.f12.params.toList args.toList ds p := hA0
  rw [Try.params12] at hA hval
  obtain ⟨v0, vs0, d0, ds0, p0, q0, hargs, rfl, rfl, h0, g0⟩ := trodAll_cons hA
  obtain ⟨rfl, rfl, rfl⟩ := trodAll_nil g0
  obtain rfl : args = #[v0] := by cases args; simp_all
  obtain ⟨rfl, rfl⟩ := trodVars_none hV
  have k0 := h0
  have lt0 : ∀ x ∈ p0, x.block < W.heap.size := by obtain ⟨m, hm⟩ := k0; exact DataW.trod_lt m _ _ _ hm
  obtain ⟨A0, z0, c0, rfl, l0, m0, r0⟩ := arg_bytes Try.underlying22 Try.underlying5 (by kernel_rfl) (hval 0 22 v0 rfl rfl) h0
  clear hA0 hval0
  refine (walkw W A0 z0 c0 l0 m0 r0).mono fun e W' ⟨he, bel⟩ => ?_
  subst he
  exact ⟨_, rfl, _, _, _, [], _, [], hW', trodAll_mk1 (shut_bool Try.underlying4 _), (trodAll_cons_mk (Below.trod laidOut (by kernel_rfl) (of_decide_eq_true (by kernel_rfl)) k0 bel lt0) trodAll_mk0), rfl, bel.frame _, fun h => by cases h⟩
theorem over : Rows.fnCarryWordRow.holds Try.pinned (OpenSpec.ofChange Rows.fnCarryWordSpec) :=
  OpenClaim.holds_of_wide 12 Try.f12 rfl rfl rfl rfl rfl rfl rfl ⟨rfl, rfl, rfl, rfl, rfl⟩ rfl rfl rfl rfl rfl (by kernel_rfl) Try.func12 (by kernel_rfl)
    (of_decide_eq_true (by kernel_rfl)) (by unfold Func.isWrapper; first | (rw [if_pos (by decide +kernel)]; kernel_rfl) | (rw [if_neg (by decide +kernel)]; exact ⟨rfl, rfl⟩))
    (fun os started H enc _ => lifted os started H enc)
theorem proved : Rows.FnCarryWordSaid := over

end Go.Proofs.Yteabibkbmigpaaa.carryWord
