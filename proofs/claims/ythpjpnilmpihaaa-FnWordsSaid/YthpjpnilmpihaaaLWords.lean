/- A word is balanced exactly if its parts of each length have sums that differ by at most 1; so are the word of the opposite elements and the word backwards; runs are as long as the word together. No condition. -/
import Derived.Test.YthpjpnilmpihaaaLawAcc
import Derived.Test.YthpjpnilmpihaaaGen5
import Derived.Test.YthpjpnilmpihaaaRuns
import Derived.Test.YthpjpnilmpihaaaPart
namespace Go.Proofs.Ythpjpnilmpihaaa.wordsLaw
open Go.ChangeShapes Go.WideShapes Go.ChangeAt Go.RowKit
set_option linter.unusedVariables false
set_option linter.unusedSimpArgs false
set_option maxRecDepth 100000 in
set_option maxHeartbeats 4000000 in
theorem walkw (w : World) (A0 : Option Addr) (n0 c0 : Nat) (l0 : n0 ≤ c0) (m0 : c0 ≤ maxLen) (r0 : RdB w w.heap.size A0 n0) :
    Calls Try.prog 8 #[.slice A0 n0 c0] w fun e w' => e = .returned (.bool true) ∧ Below w.heap.size w w' := by
  unfold maxLen at m0
  by_cases hn : n0 ≤ 1048576
  case neg =>
    have hx : 1048576 < n0 := by omega
    clear hn
    go_enter Try.func8, Try.ntmps8
    go_wp2
    go_ret
    exact ⟨rfl, Below.refl _ _⟩
  have Hb : Hid (Below w.heap.size w w) := Below.refl _ _
  go_enter Try.func8, Try.ntmps8
  go_wp2_with fail
  refine (MakeWord_any _ _ _ 25 _ (r0.past Hb.out) (by omega) (by omega) (by omega)).mono ?_
  rintro e w1 ⟨Ax, cx, x, rfl, hw, hl, hc1, hc2, Rx, h1⟩
  replace Hb := Lib.hid (thenB Hb.out h1)
  have t1 : w.heap.size ≤ w1.heap.size := h1.size
  clear h1
  have Hw := Lib.hid hw
  clear hw
  have rx := Lib.hid Rx
  go_wp2_with fail
  go_loopw [4, 5] (fun b i wr => ∃ n : Nat, 1 ≤ n ∧ n ≤ x.length + 1 ∧ i = .int .i64 n ∧ b = .bool (flag x n) ∧ Hid (Below w1.heap.size w1 wr)) (fun _ i _ => x.length + 1 - (intOf i).toNat)
  case atStart => exact ⟨1, by omega, by omega, rfl, by rw [flag_one], Below.refl _ _⟩
  case round =>
    obtain ⟨n, hn1, hn2, rfl, rfl, HW⟩ := hrel
    by_cases hlt : n ≤ x.length
    · have R := rx.out.past HW.out
      have pb := part_bd Hw.out hlt
      have Rn := Lib.hid R
      go_wp2_with fail
      refine (implParts_yes Ax cx x n _ R Hw.out hn1 hlt).mono ?_; rintro e w2 ⟨rfl, h2⟩
      have HW2 := Lib.hid (HW.out.trans (h2.mono HW.out.size))
      have R2 := Rn.out.past h2
      obtain ⟨ad, rfl, _, q⟩ := R2.at_ (k := 0) (by omega)
      have Q := Lib.hid q
      obtain ⟨lo, hlo⟩ : ∃ v, v = partLow x n := ⟨_, rfl⟩
      obtain ⟨hi, hhi⟩ : ∃ v, v = partHigh x n := ⟨_, rfl⟩
      have Hlo := Lib.hid hlo
      have Hhi := Lib.hid hhi
      simp only []
      rw [← hlo, ← hhi] at pb ⊢
      clear h2 R R2 Rn q HW hlo hhi rx Rx
      go_wp2_with fail
      go_loopw [9, 10, 11] (fun l h i wr => ∃ j : Nat, j + n ≤ x.length + 1 ∧ i = .int .i64 j ∧ l = .int .i64 (lowI x n j) ∧ h = .int .i64 (highI x n j) ∧ wr = w2) (fun _ _ i _ => x.length + 1 - (intOf i).toNat)
      case atStart => exact ⟨0, by omega, rfl, rfl, rfl, rfl⟩
      case round =>
        obtain ⟨j, hj, rfl, rfl, rfl, rfl⟩ := hrel
        by_cases hlt2 : j + n ≤ x.length
        · have q := Q.out
          have cells : Hid (∀ k, k < n → ((ad.add j).add k).block = ad.block ∧ wr.cell? ((ad.add j).add k) = some (.int .i64 (x.getD (j + k) 0))) := fun k hk => ⟨by rw [block_add, block_add], by rw [Addr.add_add]; exact q (j + k) (by omega)⟩
          have bl := lowI_bd Hw.out (n := n) j (by omega)
          have bh := highI_bd Hw.out (n := n) j (by omega)
          have bw := win_bd Hw.out (n := n) (j := j) hlt2
          have el : Hid (lowI x n (j + 1) = min (lowI x n j) (win x n j)) := rfl
          have eh : Hid (highI x n (j + 1) = max (highI x n j) (win x n j)) := rfl
          clear q
          go_wp2_with fail
          go_loop [12, 63] (fun s i => ∃ k : Nat, k ≤ n ∧ i = .int .i64 k ∧ s = .int .i64 (win x k j)) (fun _ i => n - (intOf i).toNat)
          case atStart => exact ⟨0, by omega, rfl, by simp [win]⟩
          case round =>
            obtain ⟨k, hk, rfl, rfl⟩ := hrel
            by_cases hlt3 : k < n
            · have c1 := (cells.out k hlt3).2
              have hjk : j + k < x.length := by omega
              rw [getD_at hjk] at c1
              have b1 := wordOk_at Hw.out hjk
              have b2 := win_bd Hw.out (n := k) (j := j) (by omega)
              have e1 : Hid (win x (k + 1) j = win x k j + x[j + k]) := by show _ = _; unfold win; rw [← Nat.add_assoc, pre_succ x hjk]; omega
              obtain ⟨v, hv⟩ : ∃ v, v = x[j + k] := ⟨_, rfl⟩
              rw [← hv] at c1 b1 e1
              clear hv
              go_wp2
              go_round
              case rel => exact ⟨k + 1, by omega, by go_num, by rw [e1.out]⟩
              case measure => simp [intOf]; omega
            · obtain rfl : k = n := by omega
              go_wp2
              go_roundw
              case rel => exact ⟨j + 1, by omega, by go_num, by rw [el.out]; go_num, by rw [eh.out]; go_num, by simp⟩
              case measure => simp [intOf]; omega
        · have e1 := part_low Hw.out (n := n) (i := j) (by omega) hlt
          have e2 := part_high Hw.out (n := n) (i := j) (by omega) hlt
          rw [e1, e2, ← Hlo.out, ← Hhi.out]
          have e3 : Hid (flag x (n + 1) = (flag x n && decide (hi - lo ≤ 1))) := by show _ = _; rw [flag_step x hn1, Hhi.out, Hlo.out]
          clear e1 e2 Q
          rcases Bool.eq_false_or_eq_true (flag x n) with hf | hf
          · by_cases hs : hi - lo ≤ 1
            · rw [hf]
              go_wp2
              go_roundw
              case rel => exact ⟨n + 1, by omega, by omega, by go_num, by rw [e3.out, hf]; simp [hs], HW2.out⟩
              case measure => simp [intOf]; omega
            · rw [hf]
              go_wp2
              go_roundw
              case rel => exact ⟨n + 1, by omega, by omega, by go_num, by rw [e3.out, hf]; simp [hs], HW2.out⟩
              case measure => simp [intOf]; omega
          · rw [hf]
            go_wp2
            go_roundw
            case rel => exact ⟨n + 1, by omega, by omega, by go_num, by rw [e3.out, hf]; simp, HW2.out⟩
            case measure => simp [intOf]; omega
    · obtain rfl : n = x.length + 1 := by omega
      rw [flag_end Hw.out]
      replace Rx := rx.out.past HW.out
      replace Hb := Lib.hid (Hb.out.trans (HW.out.mono Hb.out.size))
      clear rx HW
      have tb : (balB x == balB x) = true := by simp
      have tl : ((x.length : Int) == (x.length : Int)) = true := by simp
      go_wp2_with fail
      refine (implComp_yes Ax cx _ x _ Rx rfl Hw.out).mono ?_
      rintro e w2 ⟨Ac, cc, rfl, Oc, h2⟩
      replace Hb := Lib.hid (thenB Hb.out h2)
      replace Rx := Rx.past h2
      have t2 : wr.heap.size ≤ w2.heap.size := h2.size
      have Lc := own_lo Oc
      have Uc := own_hi Oc
      clear h2
      have hcall := fun W h => implReversedOf_any Ax cx x W h (by omega)
      rw [revOf_yes Hw.out] at hcall
      have Hc := Lib.hid hcall
      clear hcall
      go_wp2_with fail
      refine (Hc.out _ Rx).mono ?_
      rintro e w3 ⟨Ar, cr, rfl, Or, h3⟩
      replace Oc := own_past Oc h3
      replace Hb := Lib.hid (thenB Hb.out h3)
      replace Rx := Rx.past h3
      have t3 : w2.heap.size ≤ w3.heap.size := h3.size
      have Lr := own_lo Or
      have Ur := own_hi Or
      clear h3
      clear Hc
      rw [show (x.reverse, true).1.length = x.length from List.length_reverse]
      have hcl := compL_length x
      have Hcw := Lib.hid (compL_word Hw.out)
      have Hcl := Lib.hid hcl
      have Hbc := Lib.hid (bal_comp Hw.out)
      have Hbr := Lib.hid (bal_rev Hw.out)
      have Hrc := Lib.hid (runs_comp x)
      obtain ⟨C, hC⟩ : ∃ C, C = compL x := ⟨_, rfl⟩
      rw [← hC] at Oc Hcw Hcl Hbc Hrc
      have Hcc : Hid (compL C = x) := by rw [hC]; exact compL_comp x
      clear hC hcl
      go_wp2_with fail
      refine (implComp_yes Ac cc _ C _ (own_rd Oc) Hcl.out Hcw.out).mono ?_
      rintro e w4 ⟨Ad, cd, rfl, Od, h4⟩
      replace Oc := own_past Oc h4
      replace Or := own_past Or h4
      replace Hb := Lib.hid (thenB Hb.out h4)
      replace Rx := Rx.past h4
      have t4 : w3.heap.size ≤ w4.heap.size := h4.size
      have Ld := own_lo Od
      have Ud := own_hi Od
      clear h4
      rw [Hcc.out] at Od
      go_wp2_with fail
      refine (runsOf_yes Ax cx _ x _ Rx rfl Hw.out).mono ?_
      rintro e w5 ⟨As, cs, rfl, Os, h5⟩
      replace Oc := own_past Oc h5
      replace Or := own_past Or h5
      replace Od := own_past Od h5
      replace Hb := Lib.hid (thenB Hb.out h5)
      replace Rx := Rx.past h5
      have t5 : w4.heap.size ≤ w5.heap.size := h5.size
      have Ls := own_lo Os
      have Us := own_hi Os
      clear h5
      go_wp2_with fail
      refine (implIsWord_any _ _ _ _ Rx (by omega)).mono ?_
      rintro e w6 ⟨rfl, rfl⟩
      go_wp2_with fail
      refine (implIsBalanced_any Ax cx x _ Rx (by omega) hc1).mono ?_
      rintro e w6 ⟨rfl, h6⟩
      replace Oc := own_past Oc h6
      replace Or := own_past Or h6
      replace Od := own_past Od h6
      replace Os := own_past Os h6
      replace Hb := Lib.hid (thenB Hb.out h6)
      replace Rx := Rx.past h6
      have t6 : w5.heap.size ≤ w6.heap.size := h6.size
      clear h6
      go_wp2_with fail
      refine (ints_same _ _ _ _ x _ _ (own_rd Od) Rx rfl (by omega)).mono ?_
      rintro e w7 ⟨rfl, h7⟩
      replace Oc := own_past Oc h7
      replace Or := own_past Or h7
      replace Od := own_past Od h7
      replace Os := own_past Os h7
      replace Hb := Lib.hid (thenB Hb.out h7)
      replace Rx := Rx.past h7
      have t7 : w6.heap.size ≤ w7.heap.size := h7.size
      clear h7
      have hcp := (own_cap Oc).1
      have hcall := fun W h => implIsBalanced_any Ac cc C W h (by rw [Hcl.out]; omega) hcp
      rw [Hbc.out, Hcl.out] at hcall
      have Hc := Lib.hid hcall
      clear hcall
      clear hcp
      go_wp2_with fail
      refine (Hc.out _ (own_rd Oc)).mono ?_
      rintro e w8 ⟨rfl, h8⟩
      replace Oc := own_past Oc h8
      replace Or := own_past Or h8
      replace Od := own_past Od h8
      replace Os := own_past Os h8
      replace Hb := Lib.hid (thenB Hb.out h8)
      replace Rx := Rx.past h8
      have t8 : w7.heap.size ≤ w8.heap.size := h8.size
      clear h8
      clear Hc
      have hcp := (own_cap Or).1
      have hcall := fun W h => implIsBalanced_any Ar cr x.reverse W h (by rw [List.length_reverse]; omega) hcp
      rw [Hbr.out, List.length_reverse] at hcall
      have Hc := Lib.hid hcall
      clear hcall
      clear hcp
      go_wp2_with fail
      refine (Hc.out _ (own_rd Or)).mono ?_
      rintro e w9 ⟨rfl, h9⟩
      replace Oc := own_past Oc h9
      replace Or := own_past Or h9
      replace Od := own_past Od h9
      replace Os := own_past Os h9
      replace Hb := Lib.hid (thenB Hb.out h9)
      replace Rx := Rx.past h9
      have t9 : w8.heap.size ≤ w9.heap.size := h9.size
      clear h9
      clear Hc
      have hcall := fun W h => sumOf_yes As cs _ (runs x) W h rfl (runs_seq (by omega))
      rw [runs_sum] at hcall
      have Hc := Lib.hid hcall
      clear hcall
      go_wp2_with fail
      refine (Hc.out _ (own_rd Os)).mono ?_
      rintro e w10 ⟨rfl, rfl⟩
      clear Hc
      have hcall := fun W h => runsOf_yes Ac cc _ C W h Hcl.out Hcw.out
      rw [Hrc.out] at hcall
      have Hc := Lib.hid hcall
      clear hcall
      go_wp2_with fail
      refine (Hc.out _ (own_rd Oc)).mono ?_
      rintro e w10 ⟨At, ct, rfl, Ot, h10⟩
      replace Oc := own_past Oc h10
      replace Or := own_past Or h10
      replace Od := own_past Od h10
      replace Os := own_past Os h10
      replace Hb := Lib.hid (thenB Hb.out h10)
      replace Rx := Rx.past h10
      have t10 : w9.heap.size ≤ w10.heap.size := h10.size
      have Lt := own_lo Ot
      have Ut := own_hi Ot
      clear h10
      clear Hc
      have hrl := runs_len x
      go_wp2_with fail
      refine (ints_same _ _ _ _ (runs x) _ _ (own_rd Ot) (own_rd Os) rfl (by omega)).mono ?_
      rintro e w11 ⟨rfl, h11⟩
      replace Oc := own_past Oc h11
      replace Or := own_past Or h11
      replace Od := own_past Od h11
      replace Os := own_past Os h11
      replace Ot := own_past Ot h11
      replace Hb := Lib.hid (thenB Hb.out h11)
      replace Rx := Rx.past h11
      have t11 : w10.heap.size ≤ w11.heap.size := h11.size
      clear h11
      go_wp2_with fail
      go_ret
      exact ⟨rfl, Hb.out⟩
set_option maxRecDepth 100000 in
theorem lifted (os : Os) (started : os.Started) (H : Type) (enc : TypeId × Value → H) :
    ReturnsInHanded {} Try.checked os 8 .any (Rows.fnWordsSpec.pre6 enc Try.prog Try.f8 Rows.fnWordsRow.domain false) (Rows.fnWordsSpec.post enc Try.prog Try.f8 false true false false) := by
  refine returnsInHanded_of_change (C := Try.checked) own started (by kernel_rfl) Try.func8
    (ChangeSpec.witness6 (enc := enc) (C := Try.checked) false ⟨#[], #[.slice none 0 0], []⟩ 8 (by kernel_rfl) (by kernel_rfl) (by kernel_rfl) (by kernel_rfl)) ?_
  intro W base args ds gs before hval0 hW hcnd _
  have hval : ∀ (j : Nat) t v, Try.f8.params[j]? = some t → args[j]? = some v → Value.okWide Try.prog W .any base t v := hval0
  have hW' := hW
  obtain ⟨p, q, hA0, hV, rfl, hfz, hnd⟩ := hW
  have hA : DataW.TrodAll enc Try.prog W 0 (fun _ => true) true Try.f8.params.toList args.toList ds p := hA0
  rw [Try.params8] at hA hval
  obtain ⟨v0, vs0, d0, ds0, p0, q0, hargs, rfl, rfl, h0, g0⟩ := trodAll_cons hA
  obtain ⟨rfl, rfl, rfl⟩ := trodAll_nil g0
  obtain rfl : args = #[v0] := by cases args; simp_all
  obtain ⟨rfl, rfl⟩ := trodVars_none hV
  have k0 := h0
  have lt0 : ∀ x ∈ p0, x.block < W.heap.size := by obtain ⟨m, hm⟩ := k0; exact DataW.trod_lt m _ _ _ hm
  obtain ⟨A0, z0, c0, rfl, l0, m0, r0⟩ := arg_bytes Try.underlying22 Try.underlying5 (by kernel_rfl) (hval 0 22 v0 rfl rfl) h0
  clear hA0 hval0
  refine (walkw W A0 z0 c0 l0 m0 r0).mono fun e W' ⟨he, bel⟩ => ?_
  subst he
  exact ⟨_, rfl, _, _, _, [], _, [], hW', trodAll_mk1 (shut_bool Try.underlying4 _), (trodAll_cons_mk (Below.trod laidOut (by kernel_rfl) (of_decide_eq_true (by kernel_rfl)) k0 bel lt0) trodAll_mk0), rfl, bel.frame _, fun h => by cases h⟩
theorem over : Rows.fnWordsRow.holds Try.pinned (OpenSpec.ofChange Rows.fnWordsSpec) :=
  OpenClaim.holds_of_wide 8 Try.f8 rfl rfl rfl rfl rfl rfl rfl ⟨rfl, rfl, rfl, rfl, rfl⟩ rfl rfl rfl rfl rfl (by kernel_rfl) Try.func8 (by kernel_rfl)
    (of_decide_eq_true (by kernel_rfl)) (by unfold Func.isWrapper; first | (rw [if_pos (by decide +kernel)]; kernel_rfl) | (rw [if_neg (by decide +kernel)]; exact ⟨rfl, rfl⟩))
    (fun os started H enc _ => lifted os started H enc)
theorem proved : Rows.FnWordsSaid := over

end Go.Proofs.Ythpjpnilmpihaaa.wordsLaw
