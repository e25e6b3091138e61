/- The program's ParseModulator returns what the reference's returns, for all arguments. No condition; what the listed variables of Go's library hold is tied to its text. -/
import Derived.Test.YtdmoceooijbajaaDoorParM
import Derived.Test.YtdmoceooijbajaaDoorBench
import Derived.Test.YtdmoceooijbajaaDoorStrArg
import Derived.Test.YtdmoceooijbajaaDoorCards
import Derived.Test.YtdmoceooijbajaaDoorTie
import Derived.Lay
import Derived.LaidOnce
import Derived.SevenTiedAt
namespace Go.Proofs.YtdmoceooijbajaaDoor.parseModulator
open Go.ChangeShapes Go.WideShapes Go.ChangeAt Go.RowKit
set_option linter.unusedVariables false
set_option linter.unusedSimpArgs false
set_option maxRecDepth 100000 in
set_option maxHeartbeats 2000000 in
theorem walkw (w : World) (a0 : ByteArray) (w0 : a0.size ≤ maxLen) :
    Calls Tryd.prog 4 #[.string a0] w fun e w' => e = .returned (.bool true) ∧ Below w.heap.size w w' := by
  by_cases n0 : a0.size ≤ 1048576
  case neg =>
    unfold maxLen at w0
    have n0x : 1048576 < a0.size := by omega
    clear n0
    go_enter Tryd.func4, Tryd.ntmps4
    go_wp2
    go_ret
    exact ⟨rfl, Below.refl _ _⟩
  clear w0
  have Hb : Hid (Below w.heap.size w w) := Below.refl _ _
  go_enter Tryd.func4, Tryd.ntmps4
  go_wp2_with fail
  refine (specParM_any a0 _ (by omega)).mono ?_
  rintro e w1 ⟨Aw0a, cw0a, rfl, Ow0a, h1⟩
  replace Hb := Lib.hid (thenB Hb.out h1)
  have t1 : w.heap.size ≤ w1.heap.size := h1.size
  have Lw0a := own_lo Ow0a
  have Uw0a := own_hi Ow0a
  clear h1
  have bx : Below w1.heap.size w1 (w1.alloc (.cells #[.int .i64 ((parm a0.data.toList).levels), .int .i64 ((parm a0.data.toList).step), .slice Aw0a ((parm a0.data.toList).coefs).length cw0a] 31)) := (Below.refl _ _).alloc (Nat.le_refl _) _
  have Sw0 := Blk.new w1 31 #[.int .i64 ((parm a0.data.toList).levels), .int .i64 ((parm a0.data.toList).step), .slice Aw0a ((parm a0.data.toList).coefs).length cw0a]
  have VSw0 : w1.heap.size < (w1.alloc (.cells #[.int .i64 ((parm a0.data.toList).levels), .int .i64 ((parm a0.data.toList).step), .slice Aw0a ((parm a0.data.toList).coefs).length cw0a] 31)).heap.size := by simp
  replace Ow0a := own_past Ow0a bx
  replace Hb := Lib.hid (thenB Hb.out bx)
  clear bx
  have Sw0c0 := Sw0.cell 0
  have Sw0c1 := Sw0.cell 1
  have Sw0c2 := Sw0.cell 2
  simp at Sw0c0 Sw0c1 Sw0c2
  go_wp2_with fail
  refine (implParM_any a0 _ (by omega)).mono ?_
  rintro e w2 ⟨Ag0a, cg0a, rfl, Og0a, h2⟩
  replace Ow0a := own_past Ow0a h2
  replace Sw0 := Sw0.past h2
  replace Hb := Lib.hid (thenB Hb.out h2)
  have t4 : (w1.alloc (.cells #[.int .i64 ((parm a0.data.toList).levels), .int .i64 ((parm a0.data.toList).step), .slice Aw0a ((parm a0.data.toList).coefs).length cw0a] 31)).heap.size ≤ w2.heap.size := h2.size
  have Lg0a := own_lo Og0a
  have Ug0a := own_hi Og0a
  clear h2
  have bx : Below w2.heap.size w2 (w2.alloc (.cells #[.int .i64 ((parm a0.data.toList).levels), .int .i64 ((parm a0.data.toList).step), .slice Ag0a ((parm a0.data.toList).coefs).length cg0a] 31)) := (Below.refl _ _).alloc (Nat.le_refl _) _
  have Sg0 := Blk.new w2 31 #[.int .i64 ((parm a0.data.toList).levels), .int .i64 ((parm a0.data.toList).step), .slice Ag0a ((parm a0.data.toList).coefs).length cg0a]
  have VSg0 : w2.heap.size < (w2.alloc (.cells #[.int .i64 ((parm a0.data.toList).levels), .int .i64 ((parm a0.data.toList).step), .slice Ag0a ((parm a0.data.toList).coefs).length cg0a] 31)).heap.size := by simp
  replace Ow0a := own_past Ow0a bx
  replace Og0a := own_past Og0a bx
  replace Sw0 := Sw0.past bx
  replace Hb := Lib.hid (thenB Hb.out bx)
  clear bx
  clear Sw0c0 Sw0c1 Sw0c2
  have Sw0c0 := Sw0.cell 0
  have Sw0c1 := Sw0.cell 1
  have Sw0c2 := Sw0.cell 2
  have Sg0c0 := Sg0.cell 0
  have Sg0c1 := Sg0.cell 1
  have Sg0c2 := Sg0.cell 2
  simp at Sw0c0 Sw0c1 Sw0c2 Sg0c0 Sg0c1 Sg0c2
  go_wp2_with fail
  refine (eqModulator_same Ag0a Aw0a cg0a cw0a ((parm a0.data.toList).coefs) ((parm a0.data.toList).levels) ((parm a0.data.toList).step) _ (own_rd Og0a) (own_rd Ow0a) (by have := parm_len a0.data.toList; omega)).mono ?_
  rintro e w3 ⟨rfl, h3⟩
  replace Ow0a := own_past Ow0a h3
  replace Og0a := own_past Og0a h3
  replace Sw0 := Sw0.past h3
  replace Sg0 := Sg0.past h3
  replace Hb := Lib.hid (thenB Hb.out h3)
  have t7 : (w2.alloc (.cells #[.int .i64 ((parm a0.data.toList).levels), .int .i64 ((parm a0.data.toList).step), .slice Ag0a ((parm a0.data.toList).coefs).length cg0a] 31)).heap.size ≤ w3.heap.size := h3.size
  clear h3
  have q00 := parm_len a0.data.toList
  clear Sw0c0 Sw0c1 Sw0c2 Sg0c0 Sg0c1 Sg0c2
  have Sw0c0 := Sw0.cell 0
  have Sw0c1 := Sw0.cell 1
  have Sw0c2 := Sw0.cell 2
  have Sg0c0 := Sg0.cell 0
  have Sg0c1 := Sg0.cell 1
  have Sg0c2 := Sg0.cell 2
  simp at Sw0c0 Sw0c1 Sw0c2 Sg0c0 Sg0c1 Sg0c2
  go_wp2_with fail
  refine (markModulator_any Ag0a _ cg0a ((parm a0.data.toList).coefs) ((parm a0.data.toList).levels) ((parm a0.data.toList).step) (1) _ Og0a  (by omega) (by omega) (by omega)).mono ?_
  rintro e w4 ⟨rfl, Og0a, h4a⟩
  replace Ow0a := own_wrote Ow0a h4a (apart_lt Uw0a Lg0a (by omega))
  replace Sw0 := blk_wrote Sw0 h4a Lg0a (by omega)
  replace Sg0 := blk_wrote_hi Sg0 h4a Ug0a (by omega)
  replace Hb := Lib.hid (Hb.out.trans (below_wrote h4a Hb.out.size (lo_le Lg0a (by omega))))
  have t9 : w3.heap.size ≤ w4.heap.size := h4a.size
  clear h4a
  clear Sw0c0 Sw0c1 Sw0c2 Sg0c0 Sg0c1 Sg0c2
  have Sw0c0 := Sw0.cell 0
  have Sw0c1 := Sw0.cell 1
  have Sw0c2 := Sw0.cell 2
  have Sg0c0 := Sg0.cell 0
  have Sg0c1 := Sg0.cell 1
  have Sg0c2 := Sg0.cell 2
  simp at Sw0c0 Sw0c1 Sw0c2 Sg0c0 Sg0c1 Sg0c2
  go_wp2_with fail
  refine (heldModulator_any Ag0a cg0a _ ((parm a0.data.toList).levels) ((parm a0.data.toList).step) (1) _ (own_rd Og0a) (by omega) (by omega) (by omega)).mono ?_
  rintro e w5 ⟨rfl, h5⟩
  replace Ow0a := own_past Ow0a h5
  replace Og0a := own_past Og0a h5
  replace Sw0 := Sw0.past h5
  replace Sg0 := Sg0.past h5
  replace Hb := Lib.hid (thenB Hb.out h5)
  have t10 : w4.heap.size ≤ w5.heap.size := h5.size
  clear h5
  clear Sw0c0 Sw0c1 Sw0c2 Sg0c0 Sg0c1 Sg0c2
  have Sw0c0 := Sw0.cell 0
  have Sw0c1 := Sw0.cell 1
  have Sw0c2 := Sw0.cell 2
  have Sg0c0 := Sg0.cell 0
  have Sg0c1 := Sg0.cell 1
  have Sg0c2 := Sg0.cell 2
  simp at Sw0c0 Sw0c1 Sw0c2 Sg0c0 Sg0c1 Sg0c2
  go_wp2_with fail
  refine (implParM_any a0 _ (by omega)).mono ?_
  rintro e w6 ⟨Ah0a, ch0a, rfl, Oh0a, h6⟩
  replace Ow0a := own_past Ow0a h6
  replace Og0a := own_past Og0a h6
  replace Sw0 := Sw0.past h6
  replace Sg0 := Sg0.past h6
  replace Hb := Lib.hid (thenB Hb.out h6)
  have t12 : w5.heap.size ≤ w6.heap.size := h6.size
  have Lh0a := own_lo Oh0a
  have Uh0a := own_hi Oh0a
  clear h6
  have bx : Below w6.heap.size w6 (w6.alloc (.cells #[.int .i64 ((parm a0.data.toList).levels), .int .i64 ((parm a0.data.toList).step), .slice Ah0a ((parm a0.data.toList).coefs).length ch0a] 31)) := (Below.refl _ _).alloc (Nat.le_refl _) _
  have Sh0 := Blk.new w6 31 #[.int .i64 ((parm a0.data.toList).levels), .int .i64 ((parm a0.data.toList).step), .slice Ah0a ((parm a0.data.toList).coefs).length ch0a]
  have VSh0 : w6.heap.size < (w6.alloc (.cells #[.int .i64 ((parm a0.data.toList).levels), .int .i64 ((parm a0.data.toList).step), .slice Ah0a ((parm a0.data.toList).coefs).length ch0a] 31)).heap.size := by simp
  replace Ow0a := own_past Ow0a bx
  replace Og0a := own_past Og0a bx
  replace Oh0a := own_past Oh0a bx
  replace Sw0 := Sw0.past bx
  replace Sg0 := Sg0.past bx
  replace Hb := Lib.hid (thenB Hb.out bx)
  clear bx
  clear Sw0c0 Sw0c1 Sw0c2 Sg0c0 Sg0c1 Sg0c2
  have Sw0c0 := Sw0.cell 0
  have Sw0c1 := Sw0.cell 1
  have Sw0c2 := Sw0.cell 2
  have Sg0c0 := Sg0.cell 0
  have Sg0c1 := Sg0.cell 1
  have Sg0c2 := Sg0.cell 2
  have Sh0c0 := Sh0.cell 0
  have Sh0c1 := Sh0.cell 1
  have Sh0c2 := Sh0.cell 2
  simp at Sw0c0 Sw0c1 Sw0c2 Sg0c0 Sg0c1 Sg0c2 Sh0c0 Sh0c1 Sh0c2
  go_wp2_with fail
  refine (eqModulator_same Ah0a Aw0a ch0a cw0a ((parm a0.data.toList).coefs) ((parm a0.data.toList).levels) ((parm a0.data.toList).step) _ (own_rd Oh0a) (own_rd Ow0a) (by have := parm_len a0.data.toList; omega)).mono ?_
  rintro e w7 ⟨rfl, h7⟩
  replace Ow0a := own_past Ow0a h7
  replace Og0a := own_past Og0a h7
  replace Oh0a := own_past Oh0a h7
  replace Sw0 := Sw0.past h7
  replace Sg0 := Sg0.past h7
  replace Sh0 := Sh0.past h7
  replace Hb := Lib.hid (thenB Hb.out h7)
  have t15 : (w6.alloc (.cells #[.int .i64 ((parm a0.data.toList).levels), .int .i64 ((parm a0.data.toList).step), .slice Ah0a ((parm a0.data.toList).coefs).length ch0a] 31)).heap.size ≤ w7.heap.size := h7.size
  clear h7
  clear Sw0c0 Sw0c1 Sw0c2 Sg0c0 Sg0c1 Sg0c2 Sh0c0 Sh0c1 Sh0c2
  have Sw0c0 := Sw0.cell 0
  have Sw0c1 := Sw0.cell 1
  have Sw0c2 := Sw0.cell 2
  have Sg0c0 := Sg0.cell 0
  have Sg0c1 := Sg0.cell 1
  have Sg0c2 := Sg0.cell 2
  have Sh0c0 := Sh0.cell 0
  have Sh0c1 := Sh0.cell 1
  have Sh0c2 := Sh0.cell 2
  simp at Sw0c0 Sw0c1 Sw0c2 Sg0c0 Sg0c1 Sg0c2 Sh0c0 Sh0c1 Sh0c2
  go_wp2_with fail
  refine (heldModulator_any Ag0a cg0a _ ((parm a0.data.toList).levels) ((parm a0.data.toList).step) (1) _ (own_rd Og0a) (by omega) (by omega) (by omega)).mono ?_
  rintro e w8 ⟨rfl, h8⟩
  replace Ow0a := own_past Ow0a h8
  replace Og0a := own_past Og0a h8
  replace Oh0a := own_past Oh0a h8
  replace Sw0 := Sw0.past h8
  replace Sg0 := Sg0.past h8
  replace Sh0 := Sh0.past h8
  replace Hb := Lib.hid (thenB Hb.out h8)
  have t17 : w7.heap.size ≤ w8.heap.size := h8.size
  clear h8
  go_wp2_with fail
  go_ret
  exact ⟨rfl, Hb.out⟩

set_option maxRecDepth 100000 in
theorem lifted (os : Os) (started : os.Started) (H : Type) (enc : TypeId × Value → H) :
    ReturnsInHanded {} Tryd.checked os 4 .any (fun w args => (Rows.fnExactParseModulatorSpec.pre enc Tryd.prog Tryd.f4 [] false w args ∧ laidMetH Tryd.prog Rows.fnExactParseModulatorRow.laid w) ∧ sizedMet enc Tryd.prog Tryd.f4 (OpenSpec.ofChange Rows.fnExactParseModulatorSpec) false w args) (Rows.fnExactParseModulatorSpec.post enc Tryd.prog Tryd.f4 false true false false) := by
  refine returnsInHanded_of_change_and (C := Tryd.checked) (X := fun w _ => laidMetH Tryd.prog Rows.fnExactParseModulatorRow.laid w) (fun _ _ _ hh h => h.of_heap hh) own started (by kernel_rfl) Tryd.func4
    (ChangeSpec.witness_shaped (enc := enc) (C := Tryd.checked) (os := os) (X := fun w _ => laidMetH Tryd.prog Rows.fnExactParseModulatorRow.laid w) false (World.laidAll Tryd.prog os Rows.fnExactParseModulatorRow.laid) #[.string ⟨#[]⟩] 8 (World.laidAll_os _ _ _)
      (World.shaped_of_ZipB (by kernel_rfl) (by kernel_rfl)) (by kernel_rfl) (by kernel_rfl) (by kernel_rfl)
      (by rw [MakeChecks.laidMetH_plain _ _ _ (by kernel_rfl)]; exact laidMet_laidAll _ (by kernel_rfl) (by kernel_rfl))) ?_
  intro W base args ds gs before hval0 hW hcnd _ hL _
  have hval : ∀ (j : Nat) t v, Tryd.f4.params[j]? = some t → args[j]? = some v → Value.okWide Tryd.prog W .any base t v := hval0
  have hW' := hW
  obtain ⟨p, q, hA0, hV, rfl, hfz, hnd⟩ := hW
  have hA : DataW.TrodAll enc Tryd.prog W 0 (fun _ => true) true Tryd.f4.params.toList args.toList ds p := hA0
  rw [Tryd.params4] at hA hval
  obtain ⟨v0, vs0, d0, ds0, p0, q0, hargs, rfl, rfl, h0, g0⟩ := trodAll_cons hA
  obtain ⟨rfl, rfl, rfl⟩ := trodAll_nil g0
  obtain rfl : args = #[v0] := by cases args; simp_all
  obtain ⟨rfl, rfl⟩ := trodVars_none hV
  have k0 := h0
  have lt0 : ∀ x ∈ p0, x.block < W.heap.size := by obtain ⟨m, hm⟩ := k0; exact DataW.trod_lt m _ _ _ hm
  obtain ⟨s0, rfl, ws0⟩ := arg_str Tryd.underlying9 (hval 0 9 v0 rfl rfl) h0
  clear hA0 hval0
  refine (walkw W s0 ws0).mono fun e W' ⟨he, bel⟩ => ?_
  subst he
  exact ⟨_, rfl, _, _, _, [], _, [], hW', trodAll_mk1 (shut_bool Tryd.underlying4 _), (trodAll_cons_mk (Below.trod laidOut (by kernel_rfl) (of_decide_eq_true (by kernel_rfl)) k0 bel lt0) trodAll_mk0), rfl, bel.frame _, fun h => by cases h⟩
theorem over : Rows.fnExactParseModulatorRow.holds Tryd.pinned (OpenSpec.ofChange Rows.fnExactParseModulatorSpec) :=
  OpenClaim.holds_of_wide 4 Tryd.f4 rfl rfl rfl rfl rfl rfl rfl ⟨rfl, rfl, rfl, rfl, rfl⟩ rfl rfl rfl rfl rfl (by kernel_rfl) Tryd.func4 (by kernel_rfl)
    (of_decide_eq_true (by kernel_rfl)) (by unfold Func.isWrapper; first | (rw [if_pos (by decide +kernel)]; kernel_rfl) | (rw [if_neg (by decide +kernel)]; exact ⟨rfl, rfl⟩))
    (fun os started H enc _ => lifted os started H enc)
theorem proved : Rows.FnExactParseModulatorCardSaid :=
  Claim7.holds_tied_plain_at .later [] [.data, .pinned] true (true, "ee83e3244172a01b3e30564c258e068cce6e6ea233917a0aea5f5c041fb14071") false over (fun _ h => by cases h) (by kernel_rfl) (fun _ h => by cases h) fnExactParseModulator_row_tie rfl ⟨rfl, rfl⟩ (by kernel_rfl) rfl
    (fun f fn hf hfn => by
      obtain rfl : f = 4 := Option.some.inj ((show Tryd.prog.funcNamed "loop.example/g03228/laws.FnExactParseModulator" = some 4 by kernel_rfl).symm.trans hf) |>.symm
      obtain rfl : fn = Tryd.f4 := (Option.some.inj (Tryd.func4.symm.trans hfn)).symm
      exact ⟨by kernel_rfl, fun j t ht => by
        rw [Tryd.params4] at ht
        have hm : t ∈ [9] := by simpa using Array.mem_of_getElem? ht
        have hall : ([9].all fun u => !Tryd.prog.wantsStandIn u) = true := by kernel_rfl
        exact (show Tryd.prog.wantsStandIn t = false by simpa using List.all_eq_true.1 hall t hm)⟩)
    (by kernel_rfl)

end Go.Proofs.YtdmoceooijbajaaDoor.parseModulator
