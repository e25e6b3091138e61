/- The modulus times the output of an accumulator that begins with rests 0 is its input less the differences of its last rests. No condition. -/
import Derived.Test.YteabibkbmigpaaaLawAcc
import Derived.Test.YteabibkbmigpaaaSeq2
import Derived.Test.YteabibkbmigpaaaPRun4
namespace Go.Proofs.Yteabibkbmigpaaa.carries
open Go.ChangeShapes Go.WideShapes Go.ChangeAt Go.RowKit
set_option linter.unusedVariables false
set_option linter.unusedSimpArgs false
set_option maxRecDepth 100000 in
set_option maxHeartbeats 4000000 in
theorem walkw (w : World) (A0 : Option Addr) (n0 c0 : Nat) (l0 : n0 ≤ c0) (m0 : c0 ≤ maxLen) (r0 : RdB w w.heap.size A0 n0) :
    Calls Try.prog 10 #[.slice A0 n0 c0] w fun e w' => e = .returned (.bool true) ∧ Below w.heap.size w w' := by
  unfold maxLen at m0
  by_cases hn : n0 ≤ 1048576
  case neg =>
    have hx : 1048576 < n0 := by omega
    clear hn
    go_enter Try.func10, Try.ntmps10
    go_wp2
    go_ret
    exact ⟨rfl, Below.refl _ _⟩
  have Hb : Hid (Below w.heap.size w w) := Below.refl _ _
  go_enter Try.func10, Try.ntmps10
  go_wp2_with fail
  refine (MakeAccumulator_any _ _ _ _ (r0.past Hb.out) (by omega)).mono ?_
  rintro e w1 ⟨o, m, rfl, o1, o2, m1, m2, h1⟩
  replace Hb := Lib.hid (thenB Hb.out h1)
  have t1 : w.heap.size ≤ w1.heap.size := h1.size
  clear h1
  have bx : Below w1.heap.size w1 (w1.alloc (.cells #[.int .i64 o, .int .i64 m] 24)) := (Below.refl _ _).alloc (Nat.le_refl _) _
  have B0 := Blk.new w1 24 #[.int .i64 o, .int .i64 m]
  have VB0 : w1.heap.size < (w1.alloc (.cells #[.int .i64 o, .int .i64 m] 24)).heap.size := by simp
  replace Hb := Lib.hid (thenB Hb.out bx)
  clear bx
  have bx : Below (w1.alloc (.cells #[.int .i64 o, .int .i64 m] 24)).heap.size (w1.alloc (.cells #[.int .i64 o, .int .i64 m] 24)) (w1.alloc (.cells #[.int .i64 o, .int .i64 m] 24)).drew := (Below.refl _ _).drew
  replace B0 := B0.past bx
  replace Hb := Lib.hid (thenB Hb.out bx)
  clear bx
  have t3 : (w1.alloc (.cells #[.int .i64 o, .int .i64 m] 24)).heap.size ≤ (w1.alloc (.cells #[.int .i64 o, .int .i64 m] 24)).drew.heap.size := Nat.le_refl _
  have B0c0 := B0.cell 0
  have B0c1 := B0.cell 1
  simp at B0c0 B0c1
  go_wp2_with fail
  go_region_held3 (fun w' => w'.cell? ⟨w1.heap.size, 0, none⟩ = some (.int .i64 o) ∧ w'.cell? ⟨w1.heap.size, 1, none⟩ = some (.int .i64 m)) (first | go_keep)
    (first
      | (go_at_call 17; clear B0c0 B0c1; have B0c0 := B0.cell 0; have B0c1 := B0.cell 1; simp at B0c0 B0c1; refine (fresh_any _ _ _ _ _ (r0.past Hb.out) (by omega) (by omega) (by omega)).mono ?_; rintro e w2 ⟨Af, cf, nf, rfl, hnf, Rf, h2⟩; replace B0 := B0.past h2; replace Hb := Lib.hid (thenB Hb.out h2); have t4 : (w1.alloc (.cells #[.int .i64 o, .int .i64 m] 24)).drew.heap.size ≤ w2.heap.size := h2.size; clear h2; clear B0c0 B0c1; have B0c0 := B0.cell 0; have B0c1 := B0.cell 1; simp at B0c0 B0c1)
      | (go_at_call 18; clear B0c0 B0c1; have B0c0 := B0.cell 0; have B0c1 := B0.cell 1; simp at B0c0 B0c1; refine (MakeInputs_any _ _ _ _ _ _ _ Rf (by omega) (by omega) (by omega) (by omega) (by omega)).mono ?_; rintro e w3 ⟨Ax, cx, x, rfl, Hx, Ox, h3⟩; replace B0 := B0.past h3; replace Hb := Lib.hid (thenB Hb.out h3); replace Rf := Rf.past h3; have t5 : w2.heap.size ≤ w3.heap.size := h3.size; have Lx := own_lo Ox; have Ux := own_hi Ox; clear h3; have Hhx := Lib.hid Hx; clear Hx; clear Rf; clear B0c0 B0c1; have B0c0 := B0.cell 0; have B0c1 := B0.cell 1; simp at B0c0 B0c1))
  obtain ⟨hxlx, hxrx⟩ := Hhx.out
  clear Hhx
  have Hxrx := Lib.hid hxrx
  clear hxrx
  clear B0c0 B0c1
  have B0c0 := B0.cell 0
  have B0c1 := B0.cell 1
  simp at B0c0 B0c1
  go_wp2_with fail
  refine (constant_any 0 o _ (by omega)).mono ?_
  rintro e w4 ⟨As, cs, rfl, Os, h4⟩
  replace Ox := own_past Ox h4
  replace B0 := B0.past h4
  replace Hb := Lib.hid (thenB Hb.out h4)
  have t6 : w3.heap.size ≤ w4.heap.size := h4.size
  have Ls := own_lo Os
  have Us := own_hi Os
  clear h4
  have hzl : (List.replicate o (0 : Int)).length = o := by simp
  rw [hzl]
  obtain ⟨s, hse⟩ : ∃ s : List Int, s = List.replicate o 0 := ⟨_, rfl⟩
  rw [← hse] at Os hzl
  have Hse := Lib.hid hse
  clear hse
  have Hsl := Lib.hid hzl
  clear hzl
  have Hsr : Hid (Rests m s) := by rw [Hse.out]; exact zero_rests m1 o
  clear B0c0 B0c1
  have B0c0 := B0.cell 0
  have B0c1 := B0.cell 1
  simp at B0c0 B0c1
  go_wp2_with fail
  refine (run_yes As o x.length m cs s Ax cx x _ (own_rd Os) (own_rd Ox) Hsl.out rfl Hsr.out o1 (by omega) m1 (by omega) Hxrx.out (by omega)).mono ?_
  rintro e w5 ⟨Ac0, cc0, rc, Ac1, cc1, Ac2, cc2, rfl, hrc, hec, Mc0, Oc1, Oc2, h5⟩
  replace Ox := own_past Ox h5
  replace Os := own_past Os h5
  replace B0 := B0.past h5
  replace Hb := Lib.hid (thenB Hb.out h5)
  have t7 : w4.heap.size ≤ w5.heap.size := h5.size
  have Lc1 := own_lo Oc1
  have Uc1 := own_hi Oc1
  have Lc2 := own_lo Oc2
  have Uc2 := own_hi Oc2
  have Lc0 := Mc0.los
  have Uc0 := Mc0.his
  clear h5
  have Hrc := Lib.hid hrc
  clear hrc
  have Hec := Lib.hid hec
  clear hec
  clear B0c0 B0c1
  have B0c0 := B0.cell 0
  have B0c1 := B0.cell 1
  simp at B0c0 B0c1
  go_wp2_with fail
  refine (rests_of As o x.length m cs s Ax cx x _ (own_rd Os) (own_rd Ox) Hsl.out rfl Hsr.out o1 (by omega) m1 (by omega) Hxrx.out (by omega)).mono ?_
  rintro e w6 ⟨Ar, cr, rfl, Or, h6⟩
  replace Ox := own_past Ox h6
  replace Os := own_past Os h6
  replace Oc1 := own_past Oc1 h6
  replace Oc2 := own_past Oc2 h6
  replace B0 := B0.past h6
  replace Hb := Lib.hid (thenB Hb.out h6)
  replace Mc0 := (Mc0).past h6
  have t8 : w5.heap.size ≤ w6.heap.size := h6.size
  have Lr := own_lo Or
  have Ur := own_hi Or
  clear h6
  obtain ⟨Y, hY⟩ : ∃ Y, Y = combTo x.length (cRows m s x o x.length) o := ⟨_, rfl⟩
  rw [← hY] at Oc1
  have hYl : Y.length = x.length := by rw [hY]; exact out_len s Hsl.out
  have HYl := Lib.hid hYl
  clear hYl
  have hYb : ∀ y ∈ Y, -7 ≤ y ∧ y ≤ 8 := fun y hy => by have h1 := out_bd Hsl.out o1 o2 m1 Hsr.out Hxrx.out y (by rw [← hY]; exact hy); have h2 := levs_bd o1 o2; omega
  have hYm : ∀ y ∈ Y, -1099511627776 ≤ y * m ∧ y * m ≤ 1099511627776 := fun y hy => by have h1 := hYb y hy; have h2 := Int.mul_le_mul_of_nonneg_right (c := m) h1.1 (by omega); have h3 := Int.mul_le_mul_of_nonneg_right (c := m) h1.2 (by omega); omega
  have hYs : seqOk Y = true := seqOk_of (fun y hy => by have := hYb y hy; omega) (by rw [HYl.out]; omega)
  have hcall := fun W h => implScale_yes Ac1 cc1 Y m W h hYs (by omega) (by omega) hYm
  rw [HYl.out] at hcall
  obtain ⟨G, hG⟩ : ∃ G, G = Y.map (· * m) := ⟨_, rfl⟩
  rw [← hG] at hcall
  have hGl : G.length = x.length := by rw [hG, List.length_map]; exact HYl.out
  have hGs : seqOk G = true := seqOk_of (fun v hv => by rw [hG] at hv; simp only [List.mem_map] at hv; obtain ⟨y, hy, rfl⟩ := hv; exact hYm y hy) (by rw [hGl]; omega)
  have Hc := Lib.hid hcall
  clear hcall
  have HGl := Lib.hid hGl
  clear hGl
  have HGs := Lib.hid hGs
  clear hGs
  have HG := Lib.hid hG
  clear hG
  have HY := Lib.hid hY
  clear hY
  clear hYb hYm hYs
  clear B0c0 B0c1
  have B0c0 := B0.cell 0
  have B0c1 := B0.cell 1
  simp at B0c0 B0c1
  go_wp2_with fail
  refine (Hc.out _ (own_rd Oc1)).mono ?_
  rintro e w7 ⟨Ag, cg, rfl, Og, h7⟩
  replace Ox := own_past Ox h7
  replace Os := own_past Os h7
  replace Oc1 := own_past Oc1 h7
  replace Oc2 := own_past Oc2 h7
  replace Or := own_past Or h7
  replace B0 := B0.past h7
  replace Hb := Lib.hid (thenB Hb.out h7)
  replace Mc0 := (Mc0).past h7
  have t9 : w6.heap.size ≤ w7.heap.size := h7.size
  have Lg := own_lo Og
  have Ug := own_hi Og
  clear h7
  clear Hc
  rw [HGl.out]
  have hRl : (restL m s x x.length).length = x.length := restL_length _ _ _ _
  have hcall := fun W h => implDifferencesOf_any Ar cr (restL m s x x.length) o W h (by rw [hRl]; omega)
  have hds : seqOk (diffN (restL m s x x.length) o) = true := by rw [Hse.out]; exact rest_diff_bd o1 o2 m1 m2 Hxrx.out (by omega)
  rw [diffOf_yes (rest_seq Hsl.out o1 m1 (by omega) Hsr.out Hxrx.out (by omega)) (by omega), doneOf_yes hds, hRl] at hcall
  have hDl : (diffN (restL m s x x.length) o).length = x.length := by rw [diffN_length]; exact hRl
  have hsum : addL G (diffN (restL m s x x.length) o) = x := by rw [HG.out, HY.out, Hse.out]; exact carries_sum o1
  obtain ⟨D, hD⟩ : ∃ D, D = diffN (restL m s x x.length) o := ⟨_, rfl⟩
  rw [← hD] at hcall hds hDl hsum
  have Hc := Lib.hid hcall
  clear hcall
  have Hds := Lib.hid hds
  clear hds
  have HDl := Lib.hid hDl
  clear hDl
  have Hsum := Lib.hid hsum
  clear hsum
  have HRl := Lib.hid hRl
  clear hRl
  clear hD
  clear B0c0 B0c1
  have B0c0 := B0.cell 0
  have B0c1 := B0.cell 1
  simp at B0c0 B0c1
  go_wp2_with fail
  refine (Hc.out _ (own_rd Or)).mono ?_
  rintro e w8 ⟨Ad, cd, rfl, Od, h8⟩
  replace Ox := own_past Ox h8
  replace Os := own_past Os h8
  replace Oc1 := own_past Oc1 h8
  replace Oc2 := own_past Oc2 h8
  replace Or := own_past Or h8
  replace Og := own_past Og h8
  replace B0 := B0.past h8
  replace Hb := Lib.hid (thenB Hb.out h8)
  replace Mc0 := (Mc0).past h8
  have t10 : w7.heap.size ≤ w8.heap.size := h8.size
  have Ld := own_lo Od
  have Ud := own_hi Od
  clear h8
  clear Hc
  rw [show (D, true).1.length = x.length from HDl.out]
  have hcall := fun W h h2 => implAdd_yes Ag cg G Ad cd D W h h2 HGs.out Hds.out (by rw [HDl.out, HGl.out]) (by rw [Hsum.out]; exact seq_in Hxrx.out (by omega) (by omega))
  rw [HGl.out, Hsum.out] at hcall
  have Hc := Lib.hid hcall
  clear hcall
  clear B0c0 B0c1
  have B0c0 := B0.cell 0
  have B0c1 := B0.cell 1
  simp at B0c0 B0c1
  go_wp2_with fail
  refine (Hc.out _ (own_rd Og) (own_rd Od)).mono ?_
  rintro e w9 ⟨At, ct, rfl, Ot, h9⟩
  replace Ox := own_past Ox h9
  replace Os := own_past Os h9
  replace Oc1 := own_past Oc1 h9
  replace Oc2 := own_past Oc2 h9
  replace Or := own_past Or h9
  replace Og := own_past Og h9
  replace Od := own_past Od h9
  replace B0 := B0.past h9
  replace Hb := Lib.hid (thenB Hb.out h9)
  replace Mc0 := (Mc0).past h9
  have t11 : w8.heap.size ≤ w9.heap.size := h9.size
  have Lt := own_lo Ot
  have Ut := own_hi Ot
  clear h9
  clear Hc
  have t0 : ((x.length : Int) != (x.length : Int)) = false := by simp
  clear B0c0 B0c1
  have B0c0 := B0.cell 0
  have B0c1 := B0.cell 1
  simp at B0c0 B0c1
  go_wp2_with fail
  refine (ints_same At Ax ct cx x x.length _ (own_rd Ot) (own_rd Ox) rfl (by omega)).mono ?_
  rintro e w10 ⟨rfl, h10⟩
  replace Ox := own_past Ox h10
  replace Os := own_past Os h10
  replace Oc1 := own_past Oc1 h10
  replace Oc2 := own_past Oc2 h10
  replace Or := own_past Or h10
  replace Og := own_past Og h10
  replace Od := own_past Od h10
  replace Ot := own_past Ot h10
  replace B0 := B0.past h10
  replace Hb := Lib.hid (thenB Hb.out h10)
  replace Mc0 := (Mc0).past h10
  have t12 : w9.heap.size ≤ w10.heap.size := h10.size
  clear h10
  clear B0c0 B0c1
  have B0c0 := B0.cell 0
  have B0c1 := B0.cell 1
  simp at B0c0 B0c1
  have to : ((o : Int) != (o : Int)) = false := by simp
  go_wp2_with fail
  by_cases h0 : x.length = 0
  · have t1 : ((x.length : Int) == 0) = true := by simp [h0]
    have H0 := Lib.hid h0
    clear h0
    go_quiet (fail)
    go_wp2
    go_ret
    exact ⟨rfl, below_drewN' Hb.out _⟩
  · have t1 : ((x.length : Int) == 0) = false := beq_eq_false_iff_ne.2 (by omega)
    have e5 := Lib.hid (rest_last (m := m) (xs := x) s Hsl.out o1 (by omega))
    have hE : (stX m s x x.length).length = o := (stX_length m s x x.length).trans Hsl.out
    have hj1 : x.length - 1 < (restL m s x x.length).length := by rw [HRl.out]; omega
    have hj2 : o - 1 < (stX m s x x.length).length := by omega
    obtain ⟨ad, rfl, _, q⟩ := (own_rd Or).at_ hj1
    obtain ⟨ad', rfl, _, q'⟩ := (own_rd Oc2).at_ hj2
    have d1 := q _ hj1
    have d2 := q' _ hj2
    rw [e5.out] at d1
    obtain ⟨v, hv⟩ : ∃ v, v = (stX m s x x.length).getD (o - 1) 0 := ⟨_, rfl⟩
    rw [← hv] at d1 d2
    have i1 : IntKind.i64.wrap ((x.length : Int) - 1) = (x.length : Int) - 1 := Go.IntWalk.i64_in _ (by omega)
    have i2 : IntKind.i64.wrap ((o : Int) - 1) = (o : Int) - 1 := Go.IntWalk.i64_in _ (by omega)
    have n1 : ((x.length : Int) - 1).toNat = x.length - 1 := by omega
    have n2 : ((o : Int) - 1).toNat = o - 1 := by omega
    have p1 : (0 : Int) ≤ (x.length : Int) - 1 := by omega
    have p2 : (0 : Int) ≤ (o : Int) - 1 := by omega
    have p3 : (x.length : Int) - 1 < (x.length : Int) := by omega
    have p4 : (o : Int) - 1 < (o : Int) := by omega
    have tv : (v == v) = true := by simp
    clear q q' hv hE hj1 hj2 h0
    go_quiet (fail)
    go_wp2
    go_ret
    exact ⟨rfl, below_drewN' Hb.out _⟩
set_option maxRecDepth 100000 in
theorem lifted (os : Os) (started : os.Started) (H : Type) (enc : TypeId × Value → H) :
    ReturnsInHanded {} Try.checked os 10 .any (Rows.fnCarriesSpec.pre6 enc Try.prog Try.f10 Rows.fnCarriesRow.domain false) (Rows.fnCarriesSpec.post enc Try.prog Try.f10 false true false false) := by
  refine returnsInHanded_of_change (C := Try.checked) own started (by kernel_rfl) Try.func10
    (ChangeSpec.witness6 (enc := enc) (C := Try.checked) false ⟨#[], #[.slice none 0 0], []⟩ 8 (by kernel_rfl) (by kernel_rfl) (by kernel_rfl) (by kernel_rfl)) ?_
  intro W base args ds gs before hval0 hW hcnd _
  have hval : ∀ (j : Nat) t v, Try.f10.params[j]? = some t → args[j]? = some v → Value.okWide Try.prog W .any base t v := hval0
  have hW' := hW
  obtain ⟨p, q, hA0, hV, rfl, hfz, hnd⟩ := hW
  have hA : DataW.TrodAll enc Try.prog W 0 (fun _ => true) true Try.f10.params.toList args.toList ds p := hA0
  rw [Try.params10] at hA hval
  obtain ⟨v0, vs0, d0, ds0, p0, q0, hargs, rfl, rfl, h0, g0⟩ := trodAll_cons hA
  obtain ⟨rfl, rfl, rfl⟩ := trodAll_nil g0
  obtain rfl : args = #[v0] := by cases args; simp_all
  obtain ⟨rfl, rfl⟩ := trodVars_none hV
  have k0 := h0
  have lt0 : ∀ x ∈ p0, x.block < W.heap.size := by obtain ⟨m, hm⟩ := k0; exact DataW.trod_lt m _ _ _ hm
  obtain ⟨A0, z0, c0, rfl, l0, m0, r0⟩ := arg_bytes Try.underlying22 Try.underlying5 (by kernel_rfl) (hval 0 22 v0 rfl rfl) h0
  clear hA0 hval0
  refine (walkw W A0 z0 c0 l0 m0 r0).mono fun e W' ⟨he, bel⟩ => ?_
  subst he
  exact ⟨_, rfl, _, _, _, [], _, [], hW', trodAll_mk1 (shut_bool Try.underlying4 _), (trodAll_cons_mk (Below.trod laidOut (by kernel_rfl) (of_decide_eq_true (by kernel_rfl)) k0 bel lt0) trodAll_mk0), rfl, bel.frame _, fun h => by cases h⟩
theorem over : Rows.fnCarriesRow.holds Try.pinned (OpenSpec.ofChange Rows.fnCarriesSpec) :=
  OpenClaim.holds_of_wide 10 Try.f10 rfl rfl rfl rfl rfl rfl rfl ⟨rfl, rfl, rfl, rfl, rfl⟩ rfl rfl rfl rfl rfl (by kernel_rfl) Try.func10 (by kernel_rfl)
    (of_decide_eq_true (by kernel_rfl)) (by unfold Func.isWrapper; first | (rw [if_pos (by decide +kernel)]; kernel_rfl) | (rw [if_neg (by decide +kernel)]; exact ⟨rfl, rfl⟩))
    (fun os started H enc _ => lifted os started H enc)
theorem proved : Rows.FnCarriesSaid := over

end Go.Proofs.Yteabibkbmigpaaa.carries
