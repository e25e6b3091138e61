/- The program's RunBench returns what the reference's returns, for all arguments. No condition; what the listed variables of Go's library hold is tied to its text. -/
import Derived.Test.YtgkijkenbjjnmaaGreatDoorStrL
import Derived.Test.YtgkijkenbjjnmaaGreatDoorStrArg
import Derived.Test.YtgkijkenbjjnmaaGreatDoorCards
import Derived.Test.YtgkijkenbjjnmaaGreatDoorTie
import Derived.Lay
import Derived.LaidOnce
import Derived.SevenTiedAt
namespace Go.Proofs.YtgkijkenbjjnmaaGreatDoor.runBenchLaw
open Go.ChangeShapes Go.WideShapes Go.ChangeAt Go.RowKit
set_option linter.unusedVariables false
set_option linter.unusedSimpArgs false
theorem script_len (l : List UInt8) : (scriptB l).1.length ≤ 40 := by
  unfold scriptB
  split
  · rw [ansB_len]; assumption
  · simp
set_option maxRecDepth 100000 in
set_option maxHeartbeats 1000000 in
theorem walkw (w : World) (a0 : ByteArray) (w0 : a0.size ≤ maxLen) :
    Calls Tryz.prog 5 #[.string a0] w fun e w' => e = .returned (.bool true) ∧ Below w.heap.size w w' := by
  by_cases n0 : a0.size ≤ 1048576
  case neg =>
    unfold maxLen at w0
    have n0x : 1048576 < a0.size := by omega
    clear n0
    go_enter Tryz.func5, Tryz.ntmps5
    go_wp2
    go_ret
    exact ⟨rfl, Below.refl _ _⟩
  clear w0
  have hl := script_len a0.data.toList
  have HS := Lib.hid (fun W => specRun_any a0 W n0)
  have HI := Lib.hid (fun W => implRun_any a0 W n0)
  obtain ⟨X, hX⟩ : ∃ X, X = scriptB a0.data.toList := ⟨_, rfl⟩
  rw [← hX] at hl HS HI
  clear hX
  obtain ⟨Y, b⟩ := X
  have HL : Hid ((Y.map bs).length = Y.length) := by show _ = _; rw [List.length_map]
  have hn : Y.length ≤ 40 := hl
  have HS2 : Hid (∀ W, Calls Tryz.prog 26 #[.string a0] W (fun e w' => ∃ A c, e = .returned (.tuple #[.slice A Y.length c, .bool b]) ∧ OwnS w' W.heap.size A c (Y.map bs) ∧ Below W.heap.size W w')) := HS.out
  have HI2 : Hid (∀ W, Calls Tryz.prog 19 #[.string a0] W (fun e w' => ∃ A c, e = .returned (.tuple #[.slice A Y.length c, .bool b]) ∧ OwnS w' W.heap.size A c (Y.map bs) ∧ Below W.heap.size W w')) := HI.out
  have tb : (b != b) = false := by simp
  clear hl HS HI
  have Hb : Hid (Below w.heap.size w w) := Below.refl _ _
  go_enter Tryz.func5, Tryz.ntmps5
  go_wp2_with fail
  refine (HS2.out _).mono ?_; rintro e w1 ⟨Aw, cw, rfl, Ow, h⟩
  replace Hb := Lib.hid (thenB Hb.out h)
  have Uw : Hi Aw w1.heap.size := fun a e => (ownS_lt Ow a e).2
  have HOw := Lib.hid Ow
  have z1 : w.heap.size ≤ w1.heap.size := h.size
  clear h Ow
  go_wp2_with fail
  refine (HI2.out _).mono ?_; rintro e w2 ⟨Ag, cg, rfl, Og, h⟩
  replace Hb := Lib.hid (thenB Hb.out h)
  replace HOw := Lib.hid (ownS_past HOw.out h)
  have Lg : Lo Ag w1.heap.size := ownS_lo Og
  have HOg := Lib.hid Og
  clear h Og
  go_wp2_with fail
  refine (eqStringS_same Ag Aw w1.heap.size w.heap.size cg cw Y.length (Y.map bs) _ HOg.out HOw.out HL.out (by omega)).mono ?_; rintro e w3 ⟨rfl, h⟩
  replace Hb := Lib.hid (thenB Hb.out h)
  replace HOw := Lib.hid (ownS_past HOw.out h)
  replace HOg := Lib.hid (ownS_past HOg.out h)
  clear h
  go_wp2_with fail
  refine (markStringS_any Ag w1.heap.size cg Y.length (Y.map bs) 1 _ HOg.out HL.out (by omega) (by omega) (by omega)).mono ?_; rintro e w4 ⟨rfl, Om, h⟩
  replace HOw := Lib.hid (ownS_wrote HOw.out h (apart_lt Uw Lg (Nat.le_refl _)))
  replace Hb := Lib.hid (Hb.out.trans (below_wrote h Hb.out.size (lo_le Lg z1)))
  have HOm := Lib.hid Om
  clear h Om HOg
  go_wp2_with fail
  refine (heldStringS_any Ag 0 cg Y.length 1 _ HOm.out (by omega) (by omega) (by omega)).mono ?_; rintro e w5 ⟨rfl, h⟩
  replace Hb := Lib.hid (thenB Hb.out h)
  replace HOw := Lib.hid (ownS_past HOw.out h)
  replace HOm := Lib.hid (ownS_past HOm.out h)
  clear h
  go_wp2_with fail
  refine (HI2.out _).mono ?_; rintro e w6 ⟨Ah, ch, rfl, Oh, h⟩
  replace Hb := Lib.hid (thenB Hb.out h)
  replace HOw := Lib.hid (ownS_past HOw.out h)
  replace HOm := Lib.hid (ownS_past HOm.out h)
  have HOh := Lib.hid Oh
  clear h Oh
  go_wp2_with fail
  refine (eqStringS_same Ah Aw w5.heap.size w.heap.size ch cw Y.length (Y.map bs) _ HOh.out HOw.out HL.out (by omega)).mono ?_; rintro e w7 ⟨rfl, h⟩
  replace Hb := Lib.hid (thenB Hb.out h)
  replace HOm := Lib.hid (ownS_past HOm.out h)
  clear h
  go_wp2_with fail
  refine (heldStringS_any Ag 0 cg Y.length 1 _ HOm.out (by omega) (by omega) (by omega)).mono ?_; rintro e w8 ⟨rfl, h⟩
  replace Hb := Lib.hid (thenB Hb.out h)
  clear h
  go_wp2_with fail
  go_ret
  exact ⟨rfl, Hb.out⟩
set_option maxRecDepth 100000 in
theorem lifted (os : Os) (started : os.Started) (H : Type) (enc : TypeId × Value → H) :
    ReturnsInHanded {} Tryz.checked os 5 .any (fun w args => (Rows.fnExactRunBenchSpec.pre enc Tryz.prog Tryz.f5 [] false w args ∧ laidMetH Tryz.prog Rows.fnExactRunBenchRow.laid w) ∧ sizedMet enc Tryz.prog Tryz.f5 (OpenSpec.ofChange Rows.fnExactRunBenchSpec) false w args) (Rows.fnExactRunBenchSpec.post enc Tryz.prog Tryz.f5 false true false false) := by
  refine returnsInHanded_of_change_and (C := Tryz.checked) (X := fun w _ => laidMetH Tryz.prog Rows.fnExactRunBenchRow.laid w) (fun _ _ _ hh h => h.of_heap hh) own started (by kernel_rfl) Tryz.func5
    (ChangeSpec.witness_shaped (enc := enc) (C := Tryz.checked) (os := os) (X := fun w _ => laidMetH Tryz.prog Rows.fnExactRunBenchRow.laid w) false (World.laidAll Tryz.prog os Rows.fnExactRunBenchRow.laid) #[.string ⟨#[]⟩] 8 (World.laidAll_os _ _ _)
      (World.shaped_of_ZipB (by kernel_rfl) (by kernel_rfl)) (by kernel_rfl) (by kernel_rfl) (by kernel_rfl)
      (by rw [MakeChecks.laidMetH_plain _ _ _ (by kernel_rfl)]; exact laidMet_laidAll _ (by kernel_rfl) (by kernel_rfl))) ?_
  intro W base args ds gs before hval0 hW hcnd _ hL _
  have hval : ∀ (j : Nat) t v, Tryz.f5.params[j]? = some t → args[j]? = some v → Value.okWide Tryz.prog W .any base t v := hval0
  have hW' := hW
  obtain ⟨p, q, hA0, hV, rfl, hfz, hnd⟩ := hW
  have hA : DataW.TrodAll enc Tryz.prog W 0 (fun _ => true) true Tryz.f5.params.toList args.toList ds p := hA0
  rw [Tryz.params5] at hA hval
  obtain ⟨v0, vs0, d0, ds0, p0, q0, hargs, rfl, rfl, h0, g0⟩ := trodAll_cons hA
  obtain ⟨rfl, rfl, rfl⟩ := trodAll_nil g0
  obtain rfl : args = #[v0] := by cases args; simp_all
  obtain ⟨rfl, rfl⟩ := trodVars_none hV
  have k0 := h0
  have lt0 : ∀ x ∈ p0, x.block < W.heap.size := by obtain ⟨m, hm⟩ := k0; exact DataW.trod_lt m _ _ _ hm
  obtain ⟨s0, rfl, ws0⟩ := arg_str Tryz.underlying9 (hval 0 9 v0 rfl rfl) h0
  clear hA0 hval0
  refine (walkw W s0 ws0).mono fun e W' ⟨he, bel⟩ => ?_
  subst he
  exact ⟨_, rfl, _, _, _, [], _, [], hW', trodAll_mk1 (shut_bool Tryz.underlying4 _), (trodAll_cons_mk (Below.trod laidOut (by kernel_rfl) (of_decide_eq_true (by kernel_rfl)) k0 bel lt0) trodAll_mk0), rfl, bel.frame _, fun h => by cases h⟩
theorem over : Rows.fnExactRunBenchRow.holds Tryz.pinned (OpenSpec.ofChange Rows.fnExactRunBenchSpec) :=
  OpenClaim.holds_of_wide 5 Tryz.f5 rfl rfl rfl rfl rfl rfl rfl ⟨rfl, rfl, rfl, rfl, rfl⟩ rfl rfl rfl rfl rfl (by kernel_rfl) Tryz.func5 (by kernel_rfl)
    (of_decide_eq_true (by kernel_rfl)) (by unfold Func.isWrapper; first | (rw [if_pos (by decide +kernel)]; kernel_rfl) | (rw [if_neg (by decide +kernel)]; exact ⟨rfl, rfl⟩))
    (fun os started H enc _ => lifted os started H enc)
theorem proved : Rows.FnExactRunBenchCardSaid :=
  Claim7.holds_tied_plain_at .later [] [.data, .pinned] true (true, "1e1d051e5047a546fec0260843cf2203a02e44aa68992d1d67ab16c862c3e664") false over (fun _ h => by cases h) (by kernel_rfl) (fun _ h => by cases h) fnExactRunBench_row_tie rfl ⟨rfl, rfl⟩ (by kernel_rfl) rfl
    (fun f fn hf hfn => by
      obtain rfl : f = 5 := Option.some.inj ((show Tryz.prog.funcNamed "loop.example/g03228/laws.FnExactRunBench" = some 5 by kernel_rfl).symm.trans hf) |>.symm
      obtain rfl : fn = Tryz.f5 := (Option.some.inj (Tryz.func5.symm.trans hfn)).symm
      exact ⟨by kernel_rfl, fun j t ht => by
        rw [Tryz.params5] at ht
        have hm : t ∈ [9] := by simpa using Array.mem_of_getElem? ht
        have hall : ([9].all fun u => !Tryz.prog.wantsStandIn u) = true := by kernel_rfl
        exact (show Tryz.prog.wantsStandIn t = false by simpa using List.all_eq_true.1 hall t hm)⟩)
    (by kernel_rfl)

end Go.Proofs.YtgkijkenbjjnmaaGreatDoor.runBenchLaw
