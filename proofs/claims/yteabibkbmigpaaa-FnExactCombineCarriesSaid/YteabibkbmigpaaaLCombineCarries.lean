/- The program's CombineCarries returns what the reference's returns, for all arguments. No condition. -/
import Derived.Test.YteabibkbmigpaaaArgM
import Derived.Test.YteabibkbmigpaaaSComb
namespace Go.Proofs.Yteabibkbmigpaaa.combineCarries
open Go.ChangeShapes Go.WideShapes Go.ChangeAt Go.RowKit
set_option linter.unusedVariables false
set_option linter.unusedSimpArgs false
theorem comb_len (xss : List (List Int)) : (combine xss).1.length ≤ 1000 := by
  unfold combine
  split
  · rename_i h
    simp only [combineOk, Bool.and_eq_true, decide_eq_true_eq, List.all_eq_true] at h
    obtain ⟨⟨h1, h2⟩, h3⟩ := h
    have key : ∀ j, j < xss.length → lenOk (xss.getD 0 []).length (xss.getD j []) = true := fun j hj => by
      have e : xss.getD j [] = xss[j] := by simp [hj]
      rw [e]
      exact h3 _ (List.getElem_mem hj)
    have k0 := key 0 (by omega)
    simp only [lenOk, Bool.and_eq_true, decide_eq_true_eq] at k0
    rw [combTo_length _ fun j hj => by
      have := key j hj
      simp only [lenOk, Bool.and_eq_true, decide_eq_true_eq] at this
      exact this.2]
    exact wordOk_len k0.1
  · simp
theorem rows_ok {rs : List Rw} {xss : List (List Int)} (e : lists rs = xss) {n : Nat} (h : tot xss ≤ n) : ∀ r ∈ rs, r.xs.length ≤ n := fun r hr => by
  subst e
  exact Nat.le_trans (tot_mem r hr) h
theorem rows_len {rs : List Rw} {xss : List (List Int)} (e : lists rs = xss) : rs.length = xss.length := by rw [← e, lists_length]
set_option maxRecDepth 100000 in
set_option maxHeartbeats 4000000 in
theorem walkw (w : World) (A0 : Option Addr) (z0 : List Rw) (c0 : Nat) (l0 : z0.length ≤ c0) (m0 : c0 ≤ maxLen) (r0 : RdM w w.heap.size A0 z0) (i0 : ∀ r ∈ z0, r.xs.length ≤ r.c ∧ r.c ≤ maxLen ∧ I64 r.xs) :
    Calls Try.prog 6 #[.slice A0 z0.length c0] w fun e w' => e = .returned (.bool true) ∧ Below w.heap.size w w' := by
  have m1 : z0.length ≤ 9223372036854775807 := by unfold maxLen at m0; omega
  have M1 : Hid (∀ r ∈ z0, r.xs.length ≤ 9223372036854775807) := fun r hr => by
    have h := i0 r hr
    have h2 := h.2.1
    unfold maxLen at h2
    omega
  clear l0 m0 i0
  go_enter Try.func6, Try.ntmps6
  go_wp2_with fail
  refine (szIntSS_any A0 c0 z0 _ _ r0 m1 M1.out (by omega) (by omega)).mono ?_
  rintro e w0 ⟨⟨v, rfl, hv⟩, rfl⟩
  rcases hv with rfl | ⟨hv0, hv⟩
  · go_wp2_with fail
    go_ret
    exact ⟨rfl, Below.refl _ _⟩
  · have hn : z0.length ≤ 1048576 := by omega
    have ht : tot (lists z0) ≤ 1048576 := by omega
    have hv1 : ¬ v < 0 := by omega
    have HT := Lib.hid ht
    have HR : Hid (∀ r ∈ z0, r.xs.length ≤ 1048576) := rows_ok rfl ht
    have Hv := Lib.hid hv
    have R0 := Lib.hid r0
    have HL := Lib.hid (comb_len (lists z0))
    clear hv ht r0
    go_wp2_with fail
    refine (toIntSS_any A0 c0 z0 _ R0.out hn HR.out).mono ?_
    rintro e w1 ⟨Aa, ca, ra, rfl, ea, Oa, h1⟩
    have Ea := Lib.hid ea
    have Hb := Lib.hid h1
    have la : ra.length ≤ 1048576 := by rw [rows_len ea, lists_length]; exact hn
    clear ea h1
    go_wp2_with fail
    refine (specCombineCarries_any Aa ca ra _ Oa.rdm (rows_ok Ea.out HT.out) (by omega)).mono ?_
    rw [Ea.out]
    rintro e w2 ⟨Aw, cw, rfl, Ow, h2⟩
    replace Hb := Lib.hid (thenB Hb.out h2)
    have Uw := own_hi Ow
    have s2 : w.heap.size ≤ w2.heap.size := Hb.out.size
    clear h2 Oa
    go_wp2_with fail
    refine (toIntSS_any A0 c0 z0 _ (R0.out.past Hb.out) hn HR.out).mono ?_
    rintro e w3 ⟨Ax, cx, rx, rfl, ex, Ox, h3⟩
    have Ex := Lib.hid ex
    have lx : rx.length ≤ 1048576 := by rw [rows_len ex, lists_length]; exact hn
    replace Ow := own_past Ow h3
    replace Hb := Lib.hid (thenB Hb.out h3)
    have s3 := h3.size
    have Hx := Ox.his.2
    clear ex h3
    go_wp2_with fail
    refine (implCombineCarries_any Ax cx rx _ Ox.rdm (rows_ok Ex.out HT.out) (by omega)).mono ?_
    rw [Ex.out]
    rintro e w4 ⟨Ag, cg, rfl, Og, h4⟩
    have Lg := own_lo Og
    have Ug := own_hi Og
    replace Ow := own_past Ow h4
    replace Ox := Ox.past h4
    replace Hb := Lib.hid (thenB Hb.out h4)
    have s4 := h4.size
    clear h4
    go_wp2_with fail
    refine (eqIntS_same Ag Aw cg cw _ _ (own_rd Og) (own_rd Ow) (by have := HL.out; omega)).mono ?_
    rintro e w5 ⟨rfl, h5⟩
    replace Ow := own_past Ow h5
    replace Og := own_past Og h5
    replace Ox := Ox.past h5
    replace Hb := Lib.hid (thenB Hb.out h5)
    clear h5
    go_wp2_with fail
    refine (toIntSS_any A0 c0 z0 _ (R0.out.past Hb.out) hn HR.out).mono ?_
    rintro e w6 ⟨Ab, cb, rb, rfl, eb, Ob, h6⟩
    have Eb := Lib.hid eb
    replace Ow := own_past Ow h6
    replace Og := own_past Og h6
    replace Ox := Ox.past h6
    replace Hb := Lib.hid (thenB Hb.out h6)
    clear eb h6
    go_wp2_with fail
    refine (eqIntSS_same Ax Ab cx cb rx rb _ Ox.rdm Ob.rdm (Ex.out.trans Eb.out.symm) lx (fun r hr => Nat.le_trans (rows_ok Ex.out HT.out r hr) (by omega))).mono ?_
    rintro e w7 ⟨rfl, h7⟩
    replace Ow := own_past Ow h7
    replace Og := own_past Og h7
    replace Ox := Ox.past h7
    replace Hb := Lib.hid (thenB Hb.out h7)
    clear h7 Ob
    go_wp2_with fail
    refine (markIntSS_any Ax w2.heap.size w3.heap.size cx rx 1 _ Ox Hx lx (by rw [Ex.out]; exact HT.out) (by omega) (by omega)).mono ?_
    rintro e w8 ⟨rfl, _, h8⟩
    replace Ow := own_span Ow h8 (.inl Uw)
    replace Og := own_span Og h8 (.inr Lg)
    replace Hb := Lib.hid (below_span Hb.out h8 (by have := Hb.out.size; omega) Hb.out.size)
    clear h8
    have p8 : ¬ (1 + (tot (lists rx) : Int)) < 0 := by omega
    go_wp2_with fail
    refine (eqIntS_same Ag Aw cg cw _ _ (own_rd Og) (own_rd Ow) (by have := HL.out; omega)).mono ?_
    rintro e w9 ⟨rfl, h9⟩
    replace Ow := own_past Ow h9
    replace Og := own_past Og h9
    replace Hb := Lib.hid (thenB Hb.out h9)
    clear h9
    go_wp2_with fail
    refine (markIntS_any Ag _ cg _ 1 _ Og (by have := HL.out; omega) (by omega) (by omega)).mono ?_
    rintro e w10 ⟨rfl, Og', h10⟩
    replace Ow := own_wrote Ow h10 (apart_lt Uw Lg (by omega))
    replace Hb := Lib.hid (Hb.out.trans (below_wrote h10 Hb.out.size (lo_le Lg (by omega))))
    clear h10
    go_wp2_with fail
    refine (heldIntS_any Ag cg _ 1 _ (own_rd Og') (by have := HL.out; omega) (by omega) (by omega)).mono ?_
    rintro e w10' ⟨rfl, rfl⟩
    have pl : ¬ (1 + ((combine (lists z0)).1.length : Int)) < 0 := by omega
    go_wp2_with fail
    refine (toIntSS_any A0 c0 z0 _ (R0.out.past Hb.out) hn HR.out).mono ?_
    rintro e w11 ⟨Ad, cd, rd, rfl, ed, Od, h11⟩
    have Ed := Lib.hid ed
    have ld : rd.length ≤ 1048576 := by rw [rows_len ed, lists_length]; exact hn
    replace Ow := own_past Ow h11
    replace Og' := own_past Og' h11
    replace Hb := Lib.hid (thenB Hb.out h11)
    clear ed h11
    go_wp2_with fail
    refine (implCombineCarries_any Ad cd rd _ Od.rdm (rows_ok Ed.out HT.out) (by omega)).mono ?_
    rw [Ed.out]
    rintro e w12 ⟨Ah, ch, rfl, Oh, h12⟩
    replace Ow := own_past Ow h12
    replace Og' := own_past Og' h12
    replace Hb := Lib.hid (thenB Hb.out h12)
    clear h12 Od
    go_wp2_with fail
    refine (eqIntS_same Ah Aw ch cw _ _ (own_rd Oh) (own_rd Ow) (by have := HL.out; omega)).mono ?_
    rintro e w13 ⟨rfl, h13⟩
    replace Og' := own_past Og' h13
    replace Hb := Lib.hid (thenB Hb.out h13)
    clear h13 Oh Ow
    go_wp2_with fail
    refine (heldIntS_any Ag cg _ 1 _ (own_rd Og') (by have := HL.out; omega) (by omega) (by omega)).mono ?_
    rintro e w14 ⟨rfl, rfl⟩
    go_wp2_with fail
    go_ret
    exact ⟨rfl, Hb.out⟩
set_option maxRecDepth 100000 in
theorem lifted (os : Os) (started : os.Started) (H : Type) (enc : TypeId × Value → H) :
    ReturnsInHanded {} Try.checked os 6 .any (Rows.fnExactCombineCarriesSpec.pre6 enc Try.prog Try.f6 Rows.fnExactCombineCarriesRow.domain false) (Rows.fnExactCombineCarriesSpec.post enc Try.prog Try.f6 false true false false) := by
  refine returnsInHanded_of_change (C := Try.checked) own started (by kernel_rfl) Try.func6
    (ChangeSpec.witness6 (enc := enc) (C := Try.checked) false ⟨#[], #[.slice none 0 0], []⟩ 8 (by kernel_rfl) (by kernel_rfl) (by kernel_rfl) (by kernel_rfl)) ?_
  intro W base args ds gs before hval0 hW hcnd _
  have hval : ∀ (j : Nat) t v, Try.f6.params[j]? = some t → args[j]? = some v → Value.okWide Try.prog W .any base t v := hval0
  have hW' := hW
  obtain ⟨p, q, hA0, hV, rfl, hfz, hnd⟩ := hW
  have hA : DataW.TrodAll enc Try.prog W 0 (fun _ => true) true Try.f6.params.toList args.toList ds p := hA0
  rw [Try.params6] at hA hval
  obtain ⟨v0, vs0, d0, ds0, p0, q0, hargs, rfl, rfl, h0, g0⟩ := trodAll_cons hA
  obtain ⟨rfl, rfl, rfl⟩ := trodAll_nil g0
  obtain rfl : args = #[v0] := by cases args; simp_all
  obtain ⟨rfl, rfl⟩ := trodVars_none hV
  have k0 := h0
  have lt0 : ∀ x ∈ p0, x.block < W.heap.size := by obtain ⟨m, hm⟩ := k0; exact DataW.trod_lt m _ _ _ hm
  obtain ⟨A0, z0, c0, rfl, l0, m0, r0, i0⟩ := arg_rows Try.underlying30 Try.underlying26 Try.underlying3 (by kernel_rfl) (by kernel_rfl) (hval 0 30 v0 rfl rfl) h0
  clear hA0 hval0
  refine (walkw W A0 z0 c0 l0 m0 r0 i0).mono fun e W' ⟨he, bel⟩ => ?_
  subst he
  exact ⟨_, rfl, _, _, _, [], _, [], hW', trodAll_mk1 (shut_bool Try.underlying4 _), (trodAll_cons_mk (Below.trod laidOut (by kernel_rfl) (of_decide_eq_true (by kernel_rfl)) k0 bel lt0) trodAll_mk0), rfl, bel.frame _, fun h => by cases h⟩
theorem over : Rows.fnExactCombineCarriesRow.holds Try.pinned (OpenSpec.ofChange Rows.fnExactCombineCarriesSpec) :=
  OpenClaim.holds_of_wide 6 Try.f6 rfl rfl rfl rfl rfl rfl rfl ⟨rfl, rfl, rfl, rfl, rfl⟩ rfl rfl rfl rfl rfl (by kernel_rfl) Try.func6 (by kernel_rfl)
    (of_decide_eq_true (by kernel_rfl)) (by unfold Func.isWrapper; first | (rw [if_pos (by decide +kernel)]; kernel_rfl) | (rw [if_neg (by decide +kernel)]; exact ⟨rfl, rfl⟩))
    (fun os started H enc _ => lifted os started H enc)
theorem proved : Rows.FnExactCombineCarriesSaid := over

end Go.Proofs.Yteabibkbmigpaaa.combineCarries
