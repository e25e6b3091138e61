/- The growth of a comb is wide enough for its greatest sums, and one bit less is not; wrapped words stay, and sums of wrapped words are wrapped sums. No condition. -/
import Derived.Test.YtfplecbacgcjgaaPWid
import Derived.Test.YtfplecbacgcjgaaGrow
import Derived.Test.YtfplecbacgcjgaaWrap
import Derived.Test.YtfplecbacgcjgaaGenC
import Derived.Test.YtfplecbacgcjgaaLawAcc
namespace Go.Proofs.Ytfplecbacgcjgaa.widthLaw
open Go.ChangeShapes Go.WideShapes Go.ChangeAt Go.RowKit
set_option linter.unusedVariables false
set_option linter.unusedSimpArgs false
set_option maxRecDepth 100000 in
set_option maxHeartbeats 1000000 in
theorem walkw (w : World) (A0 : Option Addr) (n0 c0 : Nat) (l0 : n0 ≤ c0) (m0 : c0 ≤ maxLen) (r0 : RdB w w.heap.size A0 n0) :
    Calls Try.prog 3 #[.slice A0 n0 c0] w fun e w' => e = .returned (.bool true) ∧ Below w.heap.size w w' := by
  unfold maxLen at m0
  by_cases hn : n0 ≤ 1048576
  case neg =>
    have hx : 1048576 < n0 := by omega
    clear hn
    go_enter Try.func3, Try.ntmps3
    go_wp2
    go_ret
    exact ⟨rfl, Below.refl _ _⟩
  have Hb : Hid (Below w.heap.size w w) := Below.refl _ _
  go_enter Try.func3, Try.ntmps3
  go_wp2_with fail
  refine (MakeComb_any _ _ _ _ (r0.past Hb.out) (by omega)).mono ?_
  rintro e w1 ⟨o, r, k, rfl, o1, o2, r1, r2, k1, k2, h1⟩
  replace Hb := Lib.hid (thenB Hb.out h1)
  have t1 : w.heap.size ≤ w1.heap.size := h1.size
  clear h1
  have bx : Below w1.heap.size w1 (w1.alloc (.cells #[.int .i64 o, .int .i64 r, .int .i64 k] 24)) := (Below.refl _ _).alloc (Nat.le_refl _) _
  have B0 := Blk.new w1 24 #[.int .i64 o, .int .i64 r, .int .i64 k]
  have VB0 : w1.heap.size < (w1.alloc (.cells #[.int .i64 o, .int .i64 r, .int .i64 k] 24)).heap.size := by simp
  replace Hb := Lib.hid (thenB Hb.out bx)
  clear bx
  have B0c0 := B0.cell 0
  have B0c1 := B0.cell 1
  have B0c2 := B0.cell 2
  simp at B0c0 B0c1 B0c2
  go_wp2_with fail
  refine (at_any _ _ _ _ _ (r0.past Hb.out) (by omega) (by omega) (by omega)).mono ?_
  rintro e w2 ⟨⟨va, rfl, va1, va2⟩, rfl⟩
  clear B0c0 B0c1 B0c2
  have B0c0 := B0.cell 0
  have B0c1 := B0.cell 1
  have B0c2 := B0.cell 2
  simp at B0c0 B0c1 B0c2
  go_wp2_with fail
  refine (at_any _ _ _ _ _ (r0.past Hb.out) (by omega) (by omega) (by omega)).mono ?_
  rintro e w2 ⟨⟨vb, rfl, vb1, vb2⟩, rfl⟩
  obtain ⟨p, hp⟩ : ∃ p, p = va * vb := ⟨_, rfl⟩
  have ep : va * vb = p := hp.symm
  have pb := mul255 va1 va2 vb1 vb2
  rw [ep] at pb
  have p1 : 1 + p ≤ 65026 := by omega
  have p0 : 1 ≤ 1 + p := by omega
  have sp : IntKind.i64.wrap p = p := Go.IntWalk.i64_in _ (by omega)
  clear hp pb
  obtain ⟨S, hS⟩ : ∃ S, S = 1 + p := ⟨_, rfl⟩
  have eS : 1 + p = S := hS.symm
  rw [eS] at p0 p1
  have sS : IntKind.i64.wrap S = S := Go.IntWalk.i64_in _ (by omega)
  clear hS
  have hg := gain_bd (r := r) (j := o) p0 p1 r1 r2 o2
  have GB : Hid (∀ j, j ≤ o → 1 ≤ S * (r : Int) ^ j ∧ S * (r : Int) ^ j ≤ 84273696) := fun j hj => gain_bd p0 p1 r1 r2 (by omega)
  have GS : Hid (∀ j, S * (r : Int) ^ (j + 1) = S * (r : Int) ^ j * r) := fun j => by rw [Int.pow_succ, Int.mul_assoc]
  have G0 : Hid (S * (r : Int) ^ 0 = S) := by simp [Hid]
  have hgr := fun W => implGrowth_yes o r k S o1 (by omega) (by omega) (by omega) (by omega) (by omega) (by omega) (by omega) W
  obtain ⟨P, hP⟩ : ∃ P, P = S * (r : Int) ^ o := ⟨_, rfl⟩
  rw [← hP] at hg hgr
  have HP := Lib.hid hP
  clear hP
  obtain ⟨wd, e1, w2, w62, x1, x2, x3⟩ := width_of hg.1 (by omega)
  rw [e1] at hgr
  have HGr := Lib.hid hgr
  clear hgr
  clear e1
  have C1 : Hid (∀ W, Calls Try.prog 16 #[.int .i64 P, .int .i64 wd] W fun e w' => e = .returned (.int .i64 P) ∧ W = w') := fun W => (implWrapWord_any P wd W).mono (by rintro e w' ⟨rfl, rfl⟩; rw [wrapWord_in (by omega) (by omega), x1]; exact ⟨rfl, rfl⟩)
  have C2 : Hid (∀ W, Calls Try.prog 16 #[.int .i64 (-P), .int .i64 wd] W fun e w' => e = .returned (.int .i64 (-P)) ∧ W = w') := fun W => (implWrapWord_any (-P) wd W).mono (by rintro e w' ⟨rfl, rfl⟩; rw [wrapWord_in (by omega) (by omega), x2]; exact ⟨rfl, rfl⟩)
  have C3 : Hid (2 < wd → ∃ u : Int, (u == P) = false ∧ ∀ W, Calls Try.prog 16 #[.int .i64 P, .int .i64 ((wd : Int) - 1)] W fun e w' => e = .returned (.int .i64 u) ∧ W = w') := fun hw => ⟨wrapW P ((wd : Int) - 1), by simpa using x3 hw, fun W => (implWrapWord_any P ((wd : Int) - 1) W).mono (by rintro e w' ⟨rfl, rfl⟩; rw [wrapWord_in (by omega) (by omega)]; exact ⟨rfl, rfl⟩)⟩
  clear x1 x2 x3
  have CW : Hid (∀ p V W, 2 ≤ V → V ≤ 62 → Calls Try.prog 16 #[.int .i64 p, .int .i64 V] W fun e w' => e = .returned (.int .i64 (wrapW p V)) ∧ W = w') := fun p V W h2 h3 => (implWrapWord_any p V W).mono (by rintro e w' ⟨rfl, rfl⟩; rw [wrapWord_in h2 h3]; exact ⟨rfl, rfl⟩)
  clear B0c0 B0c1 B0c2
  have B0c0 := B0.cell 0
  have B0c1 := B0.cell 1
  have B0c2 := B0.cell 2
  simp at B0c0 B0c1 B0c2
  go_wp2_with fail
  refine (HGr.out _).mono ?_
  rintro e w2 ⟨rfl, h2⟩
  replace B0 := B0.past h2
  replace Hb := Lib.hid (thenB Hb.out h2)
  have t3 : (w1.alloc (.cells #[.int .i64 o, .int .i64 r, .int .i64 k] 24)).heap.size ≤ w2.heap.size := h2.size
  clear h2
  clear B0c0 B0c1 B0c2
  have B0c0 := B0.cell 0
  have B0c1 := B0.cell 1
  have B0c2 := B0.cell 2
  simp at B0c0 B0c1 B0c2
  go_wp2_with fail
  have R0 := Lib.hid r0
  clear r0
  go_loop [7, 8] (fun m i => ∃ j : Nat, j ≤ o ∧ i = .int .i64 j ∧ m = .int .i64 (S * (r : Int) ^ j)) (fun _ i => o - (intOf i).toNat)
  case atStart => exact ⟨0, by omega, rfl, by rw [G0.out]⟩
  case round =>
    obtain ⟨j, hj, rfl, rfl⟩ := hrel
    by_cases hlt : j < o
    · have b1 := GB.out j hj
      have b2 := GB.out (j + 1) hlt
      have HE : Hid (S * (r : Int) ^ (j + 1) = S * (r : Int) ^ j * r) := GS.out j
      rw [HE.out] at b2
      obtain ⟨u, hu⟩ : ∃ u, u = S * (r : Int) ^ j := ⟨_, rfl⟩
      rw [← hu] at b1 b2 HE ⊢
      obtain ⟨v, hv⟩ : ∃ v, v = u * (r : Int) := ⟨_, rfl⟩
      have ev : u * (r : Int) = v := hv.symm
      rw [ev] at b2 HE
      have sv : IntKind.i64.wrap v = v := Go.IntWalk.i64_in _ (by omega)
      clear hu hv
      go_wp2
      exact ⟨⟨j + 1, by omega, by go_num, by rw [HE.out]⟩, by simp [intOf]; omega⟩
    · obtain rfl : j = o := by omega
      rw [← HP.out]
      have sn : IntKind.i64.wrap (-P) = -P := Go.IntWalk.i64_in _ (by omega)
      have t1 : (P != P) = false := by simp
      have t2 : (-P != -P) = false := by simp
      go_wp2_with fail
      refine (C1.out _).mono ?_; rintro e w' ⟨rfl, rfl⟩
      go_wp2_with fail
      refine (C2.out _).mono ?_; rintro e w' ⟨rfl, rfl⟩
      by_cases hw : 2 < wd
      · obtain ⟨u, tu, C3u⟩ := C3.out hw
        have C4 := Lib.hid C3u
        clear C3u
        have sw : IntKind.i64.wrap ((wd : Int) - 1) = (wd : Int) - 1 := Go.IntWalk.i64_in _ (by omega)
        go_wp2_with fail
        refine (C4.out _).mono ?_; rintro e w' ⟨rfl, rfl⟩
        go_wp2_with fail
        refine (at_any _ _ _ _ _ (R0.out.past Hb.out) (by omega) (by omega) (by omega)).mono ?_; rintro e w' ⟨⟨v3, rfl, v31, v32⟩, rfl⟩
        go_wp2_with fail
        refine (at_any _ _ _ _ _ (R0.out.past Hb.out) (by omega) (by omega) (by omega)).mono ?_; rintro e w' ⟨⟨v4, rfl, v41, v42⟩, rfl⟩
        obtain ⟨m, hm⟩ : ∃ m, m = v3 * v4 := ⟨_, rfl⟩
        have em : v3 * v4 = m := hm.symm
        have mb := mul255 v31 v32 v41 v42
        rw [em] at mb
        have sm : IntKind.i64.wrap m = m := Go.IntWalk.i64_in _ (by omega)
        clear hm
        go_wp2_with fail
        refine (at_any _ _ _ _ _ (R0.out.past Hb.out) (by omega) (by omega) (by omega)).mono ?_; rintro e w' ⟨⟨v5, rfl, v51, v52⟩, rfl⟩
        obtain ⟨m2, hm2⟩ : ∃ q, q = m * v5 := ⟨_, rfl⟩
        have em2 : m * v5 = m2 := hm2.symm
        have mb2 := mul255 mb.1 mb.2 v51 v52
        rw [em2] at mb2
        have sm2 : IntKind.i64.wrap m2 = m2 := Go.IntWalk.i64_in _ (by omega)
        clear hm2
        go_wp2_with fail
        refine (at_any _ _ _ _ _ (R0.out.past Hb.out) (by omega) (by omega) (by omega)).mono ?_; rintro e w' ⟨⟨v6, rfl, v61, v62⟩, rfl⟩
        go_wp2_with fail
        refine (at_any _ _ _ _ _ (R0.out.past Hb.out) (by omega) (by omega) (by omega)).mono ?_; rintro e w' ⟨⟨v7, rfl, v71, v72⟩, rfl⟩
        have hv : 2 ≤ 2 + v7 % 30 ∧ 2 + v7 % 30 ≤ 31 := by omega
        have tm : v7.tmod 30 = v7 % 30 := Int.tmod_eq_emod_of_nonneg v71
        have f1 : -5000000 ≤ m2 - 5000000 ∧ m2 - 5000000 ≤ 11581375 := by omega
        obtain ⟨x, y, z, d1, d2, d3, d4, d5, d6, d7, d8, d9, d10⟩ := words_of (a := m2 - 5000000) (b := v6 * 7001 - 900000) f1.1 f1.2 hv.1 hv.2
        have D1 := Lib.hid d1
        have D2 := Lib.hid d2
        have D3 := Lib.hid d3
        have D4 := Lib.hid d4
        have D5 := Lib.hid d5
        have D6 := Lib.hid d6
        clear d1 d2 d3 d4 d5 d6
        have txx : (x == x) = true := by simp
        have tzz : (z == z) = true := by simp
        have tma : (m2 - 5000000 == m2 - 5000000) = true := by simp
        go_wp2_with fail
        refine (CW.out _ _ _ (by omega) (by omega)).mono ?_; rintro e w' ⟨he, rfl⟩; rw [D1.out] at he; subst he
        go_wp2_with fail
        refine (CW.out _ _ _ (by omega) (by omega)).mono ?_; rintro e w' ⟨he, rfl⟩; rw [D2.out] at he; subst he
        go_wp2_with fail
        refine (CW.out _ _ _ (by omega) (by omega)).mono ?_; rintro e w' ⟨he, rfl⟩; rw [D3.out] at he; subst he
        go_wp2_with fail
        refine (CW.out _ _ _ (by omega) (by omega)).mono ?_; rintro e w' ⟨he, rfl⟩; rw [D4.out] at he; subst he
        go_wp2_with fail
        refine (CW.out _ _ _ (by omega) (by omega)).mono ?_; rintro e w' ⟨he, rfl⟩; rw [D5.out] at he; subst he
        go_wp2_with fail
        refine (CW.out _ _ _ (by omega) (by omega)).mono ?_; rintro e w' ⟨he, rfl⟩; rw [D6.out] at he; subst he
        go_wp2
        go_ret
        exact ⟨rfl, Hb.out⟩
      · have wd2 : wd = 2 := by omega
        subst wd2
        go_wp2_with fail
        refine (at_any _ _ _ _ _ (R0.out.past Hb.out) (by omega) (by omega) (by omega)).mono ?_; rintro e w' ⟨⟨v3, rfl, v31, v32⟩, rfl⟩
        go_wp2_with fail
        refine (at_any _ _ _ _ _ (R0.out.past Hb.out) (by omega) (by omega) (by omega)).mono ?_; rintro e w' ⟨⟨v4, rfl, v41, v42⟩, rfl⟩
        obtain ⟨m, hm⟩ : ∃ m, m = v3 * v4 := ⟨_, rfl⟩
        have em : v3 * v4 = m := hm.symm
        have mb := mul255 v31 v32 v41 v42
        rw [em] at mb
        have sm : IntKind.i64.wrap m = m := Go.IntWalk.i64_in _ (by omega)
        clear hm
        go_wp2_with fail
        refine (at_any _ _ _ _ _ (R0.out.past Hb.out) (by omega) (by omega) (by omega)).mono ?_; rintro e w' ⟨⟨v5, rfl, v51, v52⟩, rfl⟩
        obtain ⟨m2, hm2⟩ : ∃ q, q = m * v5 := ⟨_, rfl⟩
        have em2 : m * v5 = m2 := hm2.symm
        have mb2 := mul255 mb.1 mb.2 v51 v52
        rw [em2] at mb2
        have sm2 : IntKind.i64.wrap m2 = m2 := Go.IntWalk.i64_in _ (by omega)
        clear hm2
        go_wp2_with fail
        refine (at_any _ _ _ _ _ (R0.out.past Hb.out) (by omega) (by omega) (by omega)).mono ?_; rintro e w' ⟨⟨v6, rfl, v61, v62⟩, rfl⟩
        go_wp2_with fail
        refine (at_any _ _ _ _ _ (R0.out.past Hb.out) (by omega) (by omega) (by omega)).mono ?_; rintro e w' ⟨⟨v7, rfl, v71, v72⟩, rfl⟩
        have hv : 2 ≤ 2 + v7 % 30 ∧ 2 + v7 % 30 ≤ 31 := by omega
        have tm : v7.tmod 30 = v7 % 30 := Int.tmod_eq_emod_of_nonneg v71
        have f1 : -5000000 ≤ m2 - 5000000 ∧ m2 - 5000000 ≤ 11581375 := by omega
        obtain ⟨x, y, z, d1, d2, d3, d4, d5, d6, d7, d8, d9, d10⟩ := words_of (a := m2 - 5000000) (b := v6 * 7001 - 900000) f1.1 f1.2 hv.1 hv.2
        have D1 := Lib.hid d1
        have D2 := Lib.hid d2
        have D3 := Lib.hid d3
        have D4 := Lib.hid d4
        have D5 := Lib.hid d5
        have D6 := Lib.hid d6
        clear d1 d2 d3 d4 d5 d6
        have txx : (x == x) = true := by simp
        have tzz : (z == z) = true := by simp
        have tma : (m2 - 5000000 == m2 - 5000000) = true := by simp
        go_wp2_with fail
        refine (CW.out _ _ _ (by omega) (by omega)).mono ?_; rintro e w' ⟨he, rfl⟩; rw [D1.out] at he; subst he
        go_wp2_with fail
        refine (CW.out _ _ _ (by omega) (by omega)).mono ?_; rintro e w' ⟨he, rfl⟩; rw [D2.out] at he; subst he
        go_wp2_with fail
        refine (CW.out _ _ _ (by omega) (by omega)).mono ?_; rintro e w' ⟨he, rfl⟩; rw [D3.out] at he; subst he
        go_wp2_with fail
        refine (CW.out _ _ _ (by omega) (by omega)).mono ?_; rintro e w' ⟨he, rfl⟩; rw [D4.out] at he; subst he
        go_wp2_with fail
        refine (CW.out _ _ _ (by omega) (by omega)).mono ?_; rintro e w' ⟨he, rfl⟩; rw [D5.out] at he; subst he
        go_wp2_with fail
        refine (CW.out _ _ _ (by omega) (by omega)).mono ?_; rintro e w' ⟨he, rfl⟩; rw [D6.out] at he; subst he
        go_wp2
        go_ret
        exact ⟨rfl, Hb.out⟩
set_option maxRecDepth 100000 in
theorem lifted (os : Os) (started : os.Started) (H : Type) (enc : TypeId × Value → H) :
    ReturnsInHanded {} Try.checked os 3 .any (Rows.fnWidthSpec.pre6 enc Try.prog Try.f3 Rows.fnWidthRow.domain false) (Rows.fnWidthSpec.post enc Try.prog Try.f3 false true false false) := by
  refine returnsInHanded_of_change (C := Try.checked) own started (by kernel_rfl) Try.func3
    (ChangeSpec.witness6 (enc := enc) (C := Try.checked) false ⟨#[], #[.slice none 0 0], []⟩ 8 (by kernel_rfl) (by kernel_rfl) (by kernel_rfl) (by kernel_rfl)) ?_
  intro W base args ds gs before hval0 hW hcnd _
  have hval : ∀ (j : Nat) t v, Try.f3.params[j]? = some t → args[j]? = some v → Value.okWide Try.prog W .any base t v := hval0
  have hW' := hW
  obtain ⟨p, q, hA0, hV, rfl, hfz, hnd⟩ := hW
  have hA : DataW.TrodAll enc Try.prog W 0 (fun _ => true) true Try.f3.params.toList args.toList ds p := hA0
  rw [Try.params3] at hA hval
  obtain ⟨v0, vs0, d0, ds0, p0, q0, hargs, rfl, rfl, h0, g0⟩ := trodAll_cons hA
  obtain ⟨rfl, rfl, rfl⟩ := trodAll_nil g0
  obtain rfl : args = #[v0] := by cases args; simp_all
  obtain ⟨rfl, rfl⟩ := trodVars_none hV
  have k0 := h0
  have lt0 : ∀ x ∈ p0, x.block < W.heap.size := by obtain ⟨m, hm⟩ := k0; exact DataW.trod_lt m _ _ _ hm
  obtain ⟨A0, z0, c0, rfl, l0, m0, r0⟩ := arg_bytes Try.underlying22 Try.underlying5 (by kernel_rfl) (hval 0 22 v0 rfl rfl) h0
  clear hA0 hval0
  refine (walkw W A0 z0 c0 l0 m0 r0).mono fun e W' ⟨he, bel⟩ => ?_
  subst he
  exact ⟨_, rfl, _, _, _, [], _, [], hW', trodAll_mk1 (shut_bool Try.underlying4 _), (trodAll_cons_mk (Below.trod laidOut (by kernel_rfl) (of_decide_eq_true (by kernel_rfl)) k0 bel lt0) trodAll_mk0), rfl, bel.frame _, fun h => by cases h⟩
theorem over : Rows.fnWidthRow.holds Try.pinned (OpenSpec.ofChange Rows.fnWidthSpec) :=
  OpenClaim.holds_of_wide 3 Try.f3 rfl rfl rfl rfl rfl rfl rfl ⟨rfl, rfl, rfl, rfl, rfl⟩ rfl rfl rfl rfl rfl (by kernel_rfl) Try.func3 (by kernel_rfl)
    (of_decide_eq_true (by kernel_rfl)) (by unfold Func.isWrapper; first | (rw [if_pos (by decide +kernel)]; kernel_rfl) | (rw [if_neg (by decide +kernel)]; exact ⟨rfl, rfl⟩))
    (fun os started H enc _ => lifted os started H enc)
theorem proved : Rows.FnWidthSaid := over

end Go.Proofs.Ytfplecbacgcjgaa.widthLaw
