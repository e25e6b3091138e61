/- What the program's ToSingles lays down comes back from its FromSingles, and keeps the order of neighbours. No condition. -/
import Derived.Test.YthdkdcaekfcmoaaFloF
import Derived.Test.YthdkdcaekfcmoaaArgB
namespace Go.Proofs.Ythdkdcaekfcmoaa.singlesLaw
open Go.ChangeShapes Go.WideShapes Go.ChangeAt Go.RowKit
set_option linter.unusedVariables false
set_option linter.unusedSimpArgs false
theorem sgl_fin {v s : Int} (hv : -1000000 ≤ v ∧ v ≤ 1000000) (hs : 1 ≤ s ∧ s ≤ 1099511627776) : ∃ z, Flo.Fin Ieee.single (sglB v s) z ∧ z * s ≤ v + 63 / 500 ∧ (v : Rat) ≤ z * s + 63 / 500 := by
  have e6 : ((1000000 : Int) : Rat) = 1000000 := rfl
  have e6n : ((-1000000 : Int) : Rat) = -1000000 := rfl
  have v1 : -1000000 ≤ (v : Rat) := by rw [← e6n]; exact Rat.intCast_le_intCast.2 hv.1
  have v2 : (v : Rat) ≤ 1000000 := by rw [← e6]; exact Rat.intCast_le_intCast.2 hv.2
  obtain ⟨r, r2, z2, h1, h2, h3, h4, h5⟩ := Flo.sgl_near (v := v) (s := s) (M := 1000000) (by decide) (by decide) v1 v2 hs
  have eq : quoB v s = r := by unfold quoB; rw [h1]; rfl
  have eS : sglB v s = r2 := by unfold sglB; rw [eq, h2]; rfl
  rw [eS]
  exact ⟨z2, h3, by grind, by grind⟩
theorem sgl_back {v s : Int} (hv : -1000000 ≤ v ∧ v ≤ 1000000) (hs : 1 ≤ s ∧ s ≤ 1099511627776) : Flo.frOk (sglB v s) s = true ∧ Flo.frN (sglB v s) s = v := by
  obtain ⟨z, h1, h2, h3⟩ := sgl_fin hv hs
  exact Flo.fr_back hs h1 hv (by grind) (by grind)
theorem sgl_order {v u s : Int} (hv : -1000000 ≤ v ∧ v ≤ 1000000) (hu : -1000000 ≤ u ∧ u ≤ 1000000) (hs : 1 ≤ s ∧ s ≤ 1099511627776) :
    (FloatKind.f32.format.order (sglB v s) (sglB u s) == some .lt) = decide (v < u) := by
  obtain ⟨z, h1, h2, h3⟩ := sgl_fin hv hs
  obtain ⟨y, k1, k2, k3⟩ := sgl_fin hu hs
  obtain ⟨o, o1, o2, o3, o4⟩ := Flo.fin_order h1 k1
  have o1' : FloatKind.f32.format.order (sglB v s) (sglB u s) = some o := o1
  have hS1 : (1 : Rat) ≤ s := by have := Rat.intCast_le_intCast.2 hs.1; exact this
  rw [o1', Bool.eq_iff_iff]
  simp only [beq_iff_eq, Option.some.injEq, decide_eq_true_eq, o2]
  constructor
  · intro hzy
    refine Int.not_le.1 fun h => ?_
    rcases Int.lt_or_eq_of_le h with h | h
    · have hw : ((u + 1 : Int) : Rat) ≤ v := Rat.intCast_le_intCast.2 (by omega)
      push_cast at hw
      have := Rat.mul_le_mul_of_nonneg_right (Rat.le_of_lt hzy) (show (0 : Rat) ≤ s by grind)
      grind
    · subst h
      have := Flo.fin_one h1 k1
      subst this
      exact absurd hzy (Rat.lt_irrefl)
  · intro h
    have hw : ((v + 1 : Int) : Rat) ≤ u := Rat.intCast_le_intCast.2 (by omega)
    push_cast at hw
    refine Rat.not_le.1 fun hyz => ?_
    have := Rat.mul_le_mul_of_nonneg_right hyz (show (0 : Rat) ≤ s by grind)
    grind
theorem back_all {x : List Int} {s : Int} (hx : ∀ v ∈ x, -1000000 ≤ v ∧ v ≤ 1000000) (hl : x.length ≤ 1000) (hs : 1 ≤ s ∧ s ≤ 1099511627776) : frS (x.map (sglB · s)) s = (x, true) := by
  rw [frS_yes (by simpa using hl) (inB_true hs.1 hs.2)]
  · rw [List.map_map]
    congr 1
    conv => rhs; rw [← List.map_id x]
    exact List.map_congr_left fun v hv => (sgl_back (hx v hv) hs).2
  · rw [List.all_eq_true]
    intro b hb
    obtain ⟨v, hv, rfl⟩ := List.mem_map.1 hb
    exact (sgl_back (hx v hv) hs).1
set_option maxRecDepth 100000 in
set_option maxHeartbeats 1000000 in
theorem walkw (w : World) (A0 : Option Addr) (n0 c0 : Nat) (l0 : n0 ≤ c0) (m0 : c0 ≤ maxLen) (r0 : RdB w w.heap.size A0 n0) :
    Calls Try.prog 3 #[.slice A0 n0 c0] w fun e w' => e = .returned (.bool true) ∧ Below w.heap.size w w' := by
  unfold maxLen at m0
  by_cases hn : n0 ≤ 1048576
  case neg =>
    have hx : 1048576 < n0 := by omega
    clear hn
    go_enter Try.func3, Try.ntmps3
    go_wp2
    go_ret
    exact ⟨rfl, Below.refl _ _⟩
  have Hb : Hid (Below w.heap.size w w) := Below.refl _ _
  go_enter Try.func3, Try.ntmps3
  go_wp2_with fail
  refine (MakeSequence_any _ _ _ _ _ _ (r0.past Hb.out) (by omega) (by omega) (by omega) (by omega) (by omega)).mono ?_
  rintro e w1 ⟨Ax, cx, x, rfl, hpx, Ox, h1⟩
  replace Hb := Lib.hid (thenB Hb.out h1)
  have t1 : w.heap.size ≤ w1.heap.size := h1.size
  have Lx := own_lo Ox
  have Ux := own_hi Ox
  clear h1
  have hlx : x.length ≤ 30 := by have := hpx.1; omega
  have hbx := hpx.2
  have Hbx := Lib.hid hbx
  clear hbx
  clear hpx
  go_wp2_with fail
  refine (at_any _ _ _ _ _ (r0.past Hb.out) (by omega) (by omega) (by omega)).mono ?_
  rintro e w2 ⟨⟨av, rfl, av1, av2⟩, rfl⟩
  go_wp2_with fail
  refine (at_any _ _ _ _ _ (r0.past Hb.out) (by omega) (by omega) (by omega)).mono ?_
  rintro e w2 ⟨⟨bv, rfl, bv1, bv2⟩, rfl⟩
  have ab : 0 ≤ av * bv ∧ av * bv ≤ 65025 := ⟨Int.mul_nonneg av1 bv1, Int.le_trans (Int.mul_le_mul_of_nonneg_right av2 bv1) (by omega)⟩
  obtain ⟨P, hP⟩ : ∃ P, P = av * bv := ⟨_, rfl⟩
  have e1 : av * bv = P := hP.symm
  rw [e1] at ab
  clear hP
  have i1 : IntKind.i64.wrap P = P := Go.IntWalk.i64_in _ (by omega)
  have i2 : IntKind.i64.wrap (1 + P) = 1 + P := Go.IntWalk.i64_in _ (by omega)
  have hsc : 1 ≤ 1 + P ∧ 1 + P ≤ 1099511627776 := by omega
  have hseq : seqOk x = true := seqOk_of (fun v hv => by have := Hbx.out v hv; omega) (by omega)
  have hcall := fun W h => implToS_any Ax cx x (1 + P) W h (by omega)
  rw [toSg_yes hseq (inB_true hsc.1 hsc.2)] at hcall
  unfold RetF at hcall
  have hcall2 := fun A c W h => implFromS_any A c (x.map (sglB · (1 + P))) (1 + P) W h (by rw [List.length_map]; omega)
  rw [back_all Hbx.out (by omega) hsc] at hcall2
  have HSl : Hid ((x.map (sglB · (1 + P))).length = x.length) := List.length_map _
  have HSv : Hid (∀ k (h : k < (x.map (sglB · (1 + P))).length) (h' : k < x.length), (x.map (sglB · (1 + P)))[k] = sglB x[k] (1 + P)) := fun k h h' => by simp
  obtain ⟨S, hS⟩ : ∃ S, S = x.map (sglB · (1 + P)) := ⟨_, rfl⟩
  rw [← hS] at hcall hcall2 HSl HSv
  rw [HSl.out] at hcall hcall2
  have Hc := Lib.hid hcall
  clear hcall
  have Hc2 := Lib.hid hcall2
  clear hcall2
  clear hS hseq
  go_wp2_with fail
  refine (Hc.out _ (own_rd Ox)).mono ?_
  rintro e w2 ⟨Ay, cy, rfl, Oy, h2⟩
  replace Ox := own_past Ox h2
  replace Hb := Lib.hid (thenB Hb.out h2)
  have t2 : w1.heap.size ≤ w2.heap.size := h2.size
  have Ly := ownF_lo Oy
  have Uy := ownF_hi Oy
  clear h2
  clear Hc
  go_wp2_with fail
  refine (Hc2.out _ _ _ (ownF_rd Oy)).mono ?_
  rintro e w3 ⟨Az, cz, rfl, Oz, h3⟩
  replace Ox := own_past Ox h3
  replace Oy := ownF_past Oy h3
  replace Hb := Lib.hid (thenB Hb.out h3)
  have t3 : w2.heap.size ≤ w3.heap.size := h3.size
  have Lz := own_lo Oz
  have Uz := own_hi Oz
  clear h3
  clear Hc2
  have t0 : ((x.length : Int) != (x.length : Int)) = false := by simp
  have hcall := fun W h h2 => ints_any Az Ax cz cx x x W h h2 (by omega)
  rw [eqB_self] at hcall
  have Hc := Lib.hid hcall
  clear hcall
  go_wp2_with fail
  refine (Hc.out _ (own_rd Oz) (own_rd Ox)).mono ?_
  rintro e w4 ⟨rfl, h4⟩
  replace Ox := own_past Ox h4
  replace Oy := ownF_past Oy h4
  replace Oz := own_past Oz h4
  replace Hb := Lib.hid (thenB Hb.out h4)
  have t4 : w3.heap.size ≤ w4.heap.size := h4.size
  clear h4
  clear Hc
  have Rx := Lib.hid (own_rd Ox)
  have Ry := Lib.hid (ownF_rd Oy)
  have HSC := Lib.hid hsc
  clear Ox Oy Oz Lx Ux Ly Uy Lz Uz e1 i1 i2 hsc ab
  go_wp2_with fail
  go_loopw [8] (fun i wr => ∃ k : Nat, 1 ≤ k ∧ i = .int .i64 k ∧ k ≤ x.length + 1 ∧ Hid (Below w4.heap.size w4 wr)) (fun i _ => x.length + 1 - (intOf i).toNat)
  case atStart => exact ⟨1, by omega, rfl, by omega, Below.refl _ _⟩
  case round =>
    obtain ⟨k, hk1, rfl, hk2, HW⟩ := hrel
    by_cases hlt : k < x.length
    · obtain ⟨e, he⟩ : ∃ e : Nat, (k : Int) - 1 = e := ⟨k - 1, by omega⟩
      have hex : e < x.length := by omega
      have hks : k < S.length := by rw [HSl.out]; exact hlt
      have hes : e < S.length := by rw [HSl.out]; exact hex
      obtain ⟨a1, rfl, hbl1, q1⟩ := (Rx.out.past HW.out).at_ hlt
      obtain ⟨a2, rfl, hbl2, q2⟩ := (Ry.out.past HW.out).at_ hks
      have k1 := q1 k hlt
      have k2 := q1 e hex
      have k3 := q2 k hks
      have k4 := q2 e hes
      rw [getD_at hlt] at k1
      rw [getD_at hex] at k2
      rw [getD_atF hks, HSv.out k hks hlt] at k3
      rw [getD_atF hes, HSv.out e hes hex] at k4
      have hT := sgl_order (Hbx.out _ (List.getElem_mem hlt)) (Hbx.out _ (List.getElem_mem hex)) HSC.out
      obtain ⟨v, hv⟩ : ∃ v, v = x[k] := ⟨_, rfl⟩
      obtain ⟨u, hu⟩ : ∃ v, v = x[e] := ⟨_, rfl⟩
      rw [← hv] at k1 k3 hT
      rw [← hu] at k2 k4 hT
      obtain ⟨bv, hbv⟩ : ∃ b, b = sglB v (1 + P) := ⟨_, rfl⟩
      obtain ⟨bu, hbu⟩ : ∃ b, b = sglB u (1 + P) := ⟨_, rfl⟩
      rw [← hbv] at k3 hT
      rw [← hbu] at k4 hT
      have hei : (e : Int) < (x.length : Int) := by omega
      clear q1 q2 hv hu hbv hbu hks hes
      rcases Bool.eq_false_or_eq_true (decide (v < u)) with hd | hd
      all_goals
        rw [hd] at hT
        go_wp2_with fail
        go_quiet (fail)
        go_wp2
        go_roundw
        case rel => exact ⟨k + 1, by omega, by go_num, by omega, below_drewN' HW.out _⟩
        case measure => simp [intOf]; omega
    · go_wp2_with fail
      go_ret
      exact ⟨rfl, thenB Hb.out HW.out⟩
set_option maxRecDepth 100000 in
theorem lifted (os : Os) (started : os.Started) (H : Type) (enc : TypeId × Value → H) :
    ReturnsInHanded {} Try.checked os 3 .any (Rows.fnSinglesSpec.pre6 enc Try.prog Try.f3 Rows.fnSinglesRow.domain false) (Rows.fnSinglesSpec.post enc Try.prog Try.f3 false true false false) := by
  refine returnsInHanded_of_change (C := Try.checked) own started (by kernel_rfl) Try.func3
    (ChangeSpec.witness6 (enc := enc) (C := Try.checked) false ⟨#[], #[.slice none 0 0], []⟩ 8 (by kernel_rfl) (by kernel_rfl) (by kernel_rfl) (by kernel_rfl)) ?_
  intro W base args ds gs before hval0 hW hcnd _
  have hval : ∀ (j : Nat) t v, Try.f3.params[j]? = some t → args[j]? = some v → Value.okWide Try.prog W .any base t v := hval0
  have hW' := hW
  obtain ⟨p, q, hA0, hV, rfl, hfz, hnd⟩ := hW
  have hA : DataW.TrodAll enc Try.prog W 0 (fun _ => true) true Try.f3.params.toList args.toList ds p := hA0
  rw [Try.params3] at hA hval
  obtain ⟨v0, vs0, d0, ds0, p0, q0, hargs, rfl, rfl, h0, g0⟩ := trodAll_cons hA
  obtain ⟨rfl, rfl, rfl⟩ := trodAll_nil g0
  obtain rfl : args = #[v0] := by cases args; simp_all
  obtain ⟨rfl, rfl⟩ := trodVars_none hV
  have k0 := h0
  have lt0 : ∀ x ∈ p0, x.block < W.heap.size := by obtain ⟨m, hm⟩ := k0; exact DataW.trod_lt m _ _ _ hm
  obtain ⟨A0, z0, c0, rfl, l0, m0, r0⟩ := arg_bytes Try.underlying22 Try.underlying5 (by kernel_rfl) (hval 0 22 v0 rfl rfl) h0
  clear hA0 hval0
  refine (walkw W A0 z0 c0 l0 m0 r0).mono fun e W' ⟨he, bel⟩ => ?_
  subst he
  exact ⟨_, rfl, _, _, _, [], _, [], hW', trodAll_mk1 (shut_bool Try.underlying4 _), (trodAll_cons_mk (Below.trod laidOut (by kernel_rfl) (of_decide_eq_true (by kernel_rfl)) k0 bel lt0) trodAll_mk0), rfl, bel.frame _, fun h => by cases h⟩
theorem over : Rows.fnSinglesRow.holds Try.pinned (OpenSpec.ofChange Rows.fnSinglesSpec) :=
  OpenClaim.holds_of_wide 3 Try.f3 rfl rfl rfl rfl rfl rfl rfl ⟨rfl, rfl, rfl, rfl, rfl⟩ rfl rfl rfl rfl rfl (by kernel_rfl) Try.func3 (by kernel_rfl)
    (of_decide_eq_true (by kernel_rfl)) (by unfold Func.isWrapper; first | (rw [if_pos (by decide +kernel)]; kernel_rfl) | (rw [if_neg (by decide +kernel)]; exact ⟨rfl, rfl⟩))
    (fun os started H enc _ => lifted os started H enc)
theorem proved : Rows.FnSinglesSaid := over

end Go.Proofs.Ythdkdcaekfcmoaa.singlesLaw
