/- Running sums modulo 2 give the word back by their differences, and count the ones of the word. No condition. -/
import Derived.Test.YthpjpnilmpihaaaLawAcc
import Derived.Test.YthpjpnilmpihaaaWords
import Derived.Test.YthpjpnilmpihaaaGen5
namespace Go.Proofs.Ythpjpnilmpihaaa.parities
open Go.ChangeShapes Go.WideShapes Go.ChangeAt Go.RowKit
set_option linter.unusedVariables false
set_option linter.unusedSimpArgs false
set_option maxRecDepth 100000 in
set_option maxHeartbeats 4000000 in
theorem walkw (w : World) (A0 : Option Addr) (n0 c0 : Nat) (l0 : n0 ≤ c0) (m0 : c0 ≤ maxLen) (r0 : RdB w w.heap.size A0 n0) :
    Calls Try.prog 6 #[.slice A0 n0 c0] w fun e w' => e = .returned (.bool true) ∧ Below w.heap.size w w' := by
  unfold maxLen at m0
  by_cases hn : n0 ≤ 1048576
  case neg =>
    have hx : 1048576 < n0 := by omega
    clear hn
    go_enter Try.func6, Try.ntmps6
    go_wp2
    go_ret
    exact ⟨rfl, Below.refl _ _⟩
  have Hb : Hid (Below w.heap.size w w) := Below.refl _ _
  go_enter Try.func6, Try.ntmps6
  go_wp2_with fail
  refine (MakeWord_any _ _ _ 40 _ (r0.past Hb.out) (by omega) (by omega) (by omega)).mono ?_
  rintro e w1 ⟨Ax, cx, x, rfl, hw, hl, hc1, hc2, Rx, h1⟩
  replace Hb := Lib.hid (thenB Hb.out h1)
  have t1 : w.heap.size ≤ w1.heap.size := h1.size
  clear h1
  have Hw := Lib.hid hw
  clear hw
  go_wp2_with fail
  refine (implInter_yes Ax cx _ x _ Rx rfl Hw.out).mono ?_
  rintro e w2 ⟨Av, cv, rfl, Ov, h2⟩
  replace Hb := Lib.hid (thenB Hb.out h2)
  replace Rx := Rx.past h2
  have t2 : w1.heap.size ≤ w2.heap.size := h2.size
  have Lv := own_lo Ov
  have Uv := own_hi Ov
  clear h2
  have tn : ((x.length : Int) != (x.length : Int)) = false := by simp
  have hcall := fun W h => implIsWord_any Av cv (parL x) W h (by rw [parL_length]; omega)
  rw [parL_length, parL_word Hw.out] at hcall
  have Hc := Lib.hid hcall
  clear hcall
  go_wp2_with fail
  refine (Hc.out _ (own_rd Ov)).mono ?_
  rintro e w3 ⟨rfl, rfl⟩
  clear Hc
  have rv := Lib.hid (own_rd Ov)
  have rx := Lib.hid Rx
  clear Ov Lv Uv Rx
  go_wp2_with fail
  go_loop [6, 35] (fun b i => ∃ k : Nat, k ≤ x.length ∧ i = .int .i64 k ∧ b = .int .i64 (sumTo (fun v => v) x k % 2)) (fun _ i => x.length - (intOf i).toNat)
  case atStart => exact ⟨0, by omega, rfl, by simp [sumTo_zero]⟩
  case round =>
    obtain ⟨k, hk, rfl, rfl⟩ := hrel
    have b0 := sumTo_bd (fun v => v) x 0 1 (fun y hy => wordOk_mem Hw.out y hy) k hk
    by_cases hlt : k < x.length
    · have hkv : k < (parL x).length := by rw [parL_length]; exact hlt
      obtain ⟨a1, rfl, _, q1⟩ := rv.out.at_ hkv
      obtain ⟨a2, rfl, _, q2⟩ := rx.out.at_ hlt
      have k1 := q1 k hkv
      have k2 := q2 k hlt
      have hv : (parL x).getD k 0 = sumTo (fun v => v) x (k + 1) % 2 := lst_getD _ hlt
      rw [hv] at k1
      rw [getD_at hlt] at k2
      have b1 := wordOk_mem Hw.out _ (List.getElem_mem hlt)
      have hsn := sumTo_succ (fun v => v) x hlt
      obtain ⟨y, hy⟩ : ∃ y, y = x[k] := ⟨_, rfl⟩
      obtain ⟨t, ht⟩ : ∃ t, t = sumTo (fun v => v) x k := ⟨_, rfl⟩
      have ee : sumTo (fun v => v) x (k + 1) = t + y := by rw [hsn, ← ht, ← hy]
      rw [ee] at k1
      rw [← hy] at k2 b1
      rw [← ht] at b0 ⊢
      have EE := Lib.hid ee
      have tt : ((t + y) % 2 + t % 2) % 2 = y := by omega
      clear q1 q2 hv hsn hy ht ee
      go_wp2
      go_round
      case rel => exact ⟨k + 1, by omega, by go_num, by rw [EE.out]⟩
      case measure => simp [intOf]; omega
    · obtain rfl : k = x.length := by omega
      have hid := sum_id x
      clear hlt hk
      by_cases h0 : x.length = 0
      · have t0 : ((x.length : Int) == 0) = true := by simp [h0]
        clear h0
        go_wp2_with fail
        go_quiet (fail)
        go_wp2
        go_ret
        exact ⟨rfl, below_drewN' Hb.out _⟩
      · have t0 : ((x.length : Int) == 0) = false := beq_eq_false_iff_ne.2 (by omega)
        obtain ⟨e, he⟩ : ∃ e : Nat, (x.length : Int) - 1 = e := ⟨x.length - 1, by omega⟩
        have hev : e < (parL x).length := by rw [parL_length]; omega
        obtain ⟨a1, rfl, _, q1⟩ := rv.out.at_ hev
        have k1 := q1 e hev
        have hv : (parL x).getD e 0 = sumTo (fun v => v) x (e + 1) % 2 := lst_getD _ (by omega)
        rw [hv, show e + 1 = x.length by omega, hid] at k1
        rw [hid] at b0
        have hso := wordOk_seqOk Hw.out
        have rxx := rx.out
        have el : (e : Int) < (x.length : Int) := by omega
        obtain ⟨S, hS⟩ : ∃ S, S = x.sum := ⟨_, rfl⟩
        have z1 : S.tmod 2 = S % 2 := Int.tmod_eq_emod_of_nonneg (by omega)
        rw [← hS] at k1 b0
        have z2 : (S % 2 == S % 2) = true := by simp
        have hcall := fun W h k => sumOf_quiet Ax cx x.length x W h rfl hso k
        rw [← hS] at hcall
        clear q1 hv hid hS
        go_wp2_with fail
        go_quiet (first | (go_at_call 17; exact hcall _ rxx _))
        go_wp2
        go_ret
        exact ⟨rfl, below_drewN' Hb.out _⟩
set_option maxRecDepth 100000 in
theorem lifted (os : Os) (started : os.Started) (H : Type) (enc : TypeId × Value → H) :
    ReturnsInHanded {} Try.checked os 6 .any (Rows.fnParitiesSpec.pre6 enc Try.prog Try.f6 Rows.fnParitiesRow.domain false) (Rows.fnParitiesSpec.post enc Try.prog Try.f6 false true false false) := by
  refine returnsInHanded_of_change (C := Try.checked) own started (by kernel_rfl) Try.func6
    (ChangeSpec.witness6 (enc := enc) (C := Try.checked) false ⟨#[], #[.slice none 0 0], []⟩ 8 (by kernel_rfl) (by kernel_rfl) (by kernel_rfl) (by kernel_rfl)) ?_
  intro W base args ds gs before hval0 hW hcnd _
  have hval : ∀ (j : Nat) t v, Try.f6.params[j]? = some t → args[j]? = some v → Value.okWide Try.prog W .any base t v := hval0
  have hW' := hW
  obtain ⟨p, q, hA0, hV, rfl, hfz, hnd⟩ := hW
  have hA : DataW.TrodAll enc Try.prog W 0 (fun _ => true) true Try.f6.params.toList args.toList ds p := hA0
  rw [Try.params6] at hA hval
  obtain ⟨v0, vs0, d0, ds0, p0, q0, hargs, rfl, rfl, h0, g0⟩ := trodAll_cons hA
  obtain ⟨rfl, rfl, rfl⟩ := trodAll_nil g0
  obtain rfl : args = #[v0] := by cases args; simp_all
  obtain ⟨rfl, rfl⟩ := trodVars_none hV
  have k0 := h0
  have lt0 : ∀ x ∈ p0, x.block < W.heap.size := by obtain ⟨m, hm⟩ := k0; exact DataW.trod_lt m _ _ _ hm
  obtain ⟨A0, z0, c0, rfl, l0, m0, r0⟩ := arg_bytes Try.underlying22 Try.underlying5 (by kernel_rfl) (hval 0 22 v0 rfl rfl) h0
  clear hA0 hval0
  refine (walkw W A0 z0 c0 l0 m0 r0).mono fun e W' ⟨he, bel⟩ => ?_
  subst he
  exact ⟨_, rfl, _, _, _, [], _, [], hW', trodAll_mk1 (shut_bool Try.underlying4 _), (trodAll_cons_mk (Below.trod laidOut (by kernel_rfl) (of_decide_eq_true (by kernel_rfl)) k0 bel lt0) trodAll_mk0), rfl, bel.frame _, fun h => by cases h⟩
theorem over : Rows.fnParitiesRow.holds Try.pinned (OpenSpec.ofChange Rows.fnParitiesSpec) :=
  OpenClaim.holds_of_wide 6 Try.f6 rfl rfl rfl rfl rfl rfl rfl ⟨rfl, rfl, rfl, rfl, rfl⟩ rfl rfl rfl rfl rfl (by kernel_rfl) Try.func6 (by kernel_rfl)
    (of_decide_eq_true (by kernel_rfl)) (by unfold Func.isWrapper; first | (rw [if_pos (by decide +kernel)]; kernel_rfl) | (rw [if_neg (by decide +kernel)]; exact ⟨rfl, rfl⟩))
    (fun os started H enc _ => lifted os started H enc)
theorem proved : Rows.FnParitiesSaid := over

end Go.Proofs.Ythpjpnilmpihaaa.parities
