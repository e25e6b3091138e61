/-
  No cell of these rows narrows 'for every input' (looked for: loops, veiled, ifaces, maps, wideKeys, modest, calm, conditions, laid).
  DERIVED. THE GIVEN ROWS OF THIS SEAT. 12 by the template 'for every input the law returns true; each argument reads behind the call as it read before'; 0 by the template 'total and deterministic' (their statements: YteabibkbmigpaaaTotals.lean).
  GIVEN WITH THE SEED: the statements are not yours to turn. If you find one false, say at which input.
  Laid BY PROGRAM, IN A SANDBOX (cutbox-rows.mjs): the forced cells as the released guide's own fill.sh prints them over the translation d9d4332cf5134945… (all of the seat's roots in one cut). By AI agents, Wed Nov 11 2026. No macro, syntax, notation, axiom, sorry.
-/
import Derived.Test.YteabibkbmigpaaaChecked
import GoSem.Claim
import GoSem.ClaimJoined
import GoSem.ClaimMapViews
import Derived.JoinedTies
import Derived.KernelRfl
namespace Go.Proofs.Yteabibkbmigpaaa
/- THE CELL 'sum', in the pinned program and in every row, IS THE sha256 OF THE DUMP (.gsa) THAT YteabibkbmigpaaaProg.lean LOADS. Nothing in Lean hashes anything: it is a label: what it is worth is what the hold of that sum in a sandbox is worth. -/
noncomputable def Try.pinned : Pinned := { name := "yteabibkbmigpaaa", sum := "d9d4332cf513494566ac9089e0fd9bbfc0dce91fea94ab6536dec6c814de44bd", checked := Try.checked }
namespace Rows
def none {H : Type} : Left H := { results := [], args := [] }

/-- 'laws.FnStages': WHATEVER THE INPUT: true; the input reads as it did. -/
def fnStagesSpec : ChangeSpec := { name := "fnStages", fn := fun _ => fun
  | [d] => { results := [.lit (.bool true)], args := [d] }
  | _ => none }
def fnStagesRow : OpenClaim := { program := "yteabibkbmigpaaa", sum := "d9d4332cf513494566ac9089e0fd9bbfc0dce91fea94ab6536dec6c814de44bd", func := "loop.example/g03228/laws.FnStages", spec := "fnStages", unfollowed := true, recurses := true, apart := false }
def FnStagesSaid : Prop := fnStagesRow.holds Try.pinned (OpenSpec.ofChange fnStagesSpec)

/-- ITS FALSE NEIGHBOUR: 'it returns false'. Refute it at one input. -/
def fnStagesWrong : ChangeSpec := { name := "fnStages", fn := fun _ => fun
  | [d] => { results := [.lit (.bool false)], args := [d] }
  | _ => none }
def FnStagesWrongFalsely : Prop := fnStagesRow.holds Try.pinned (OpenSpec.ofChange fnStagesWrong)

/-- 'laws.FnExactStepAccumulator': WHATEVER THE INPUT: true; the input reads as it did. -/
def fnExactStepAccumulatorSpec : ChangeSpec := { name := "fnExactStepAccumulator", fn := fun _ => fun
  | [d1, d2, d3] => { results := [.lit (.bool true)], args := [d1, d2, d3] }
  | _ => none }
def fnExactStepAccumulatorRow : OpenClaim := { program := "yteabibkbmigpaaa", sum := "d9d4332cf513494566ac9089e0fd9bbfc0dce91fea94ab6536dec6c814de44bd", func := "loop.example/g03228/laws.FnExactStepAccumulator", spec := "fnExactStepAccumulator", unfollowed := true, recurses := true, apart := false }
def FnExactStepAccumulatorSaid : Prop := fnExactStepAccumulatorRow.holds Try.pinned (OpenSpec.ofChange fnExactStepAccumulatorSpec)

/-- ITS FALSE NEIGHBOUR: 'it returns false'. Refute it at one input. -/
def fnExactStepAccumulatorWrong : ChangeSpec := { name := "fnExactStepAccumulator", fn := fun _ => fun
  | [d1, d2, d3] => { results := [.lit (.bool false)], args := [d1, d2, d3] }
  | _ => none }
def FnExactStepAccumulatorWrongFalsely : Prop := fnExactStepAccumulatorRow.holds Try.pinned (OpenSpec.ofChange fnExactStepAccumulatorWrong)

/-- 'laws.FnExactCycleOf': WHATEVER THE INPUT: true; the input reads as it did. -/
def fnExactCycleOfSpec : ChangeSpec := { name := "fnExactCycleOf", fn := fun _ => fun
  | [d1, d2, d3, d4] => { results := [.lit (.bool true)], args := [d1, d2, d3, d4] }
  | _ => none }
def fnExactCycleOfRow : OpenClaim := { program := "yteabibkbmigpaaa", sum := "d9d4332cf513494566ac9089e0fd9bbfc0dce91fea94ab6536dec6c814de44bd", func := "loop.example/g03228/laws.FnExactCycleOf", spec := "fnExactCycleOf", unfollowed := true, recurses := true, apart := false }
def FnExactCycleOfSaid : Prop := fnExactCycleOfRow.holds Try.pinned (OpenSpec.ofChange fnExactCycleOfSpec)

/-- ITS FALSE NEIGHBOUR: 'it returns false'. Refute it at one input. -/
def fnExactCycleOfWrong : ChangeSpec := { name := "fnExactCycleOf", fn := fun _ => fun
  | [d1, d2, d3, d4] => { results := [.lit (.bool false)], args := [d1, d2, d3, d4] }
  | _ => none }
def FnExactCycleOfWrongFalsely : Prop := fnExactCycleOfRow.holds Try.pinned (OpenSpec.ofChange fnExactCycleOfWrong)

/-- 'laws.FnExactCombineCarries': WHATEVER THE INPUT: true; the input reads as it did. -/
def fnExactCombineCarriesSpec : ChangeSpec := { name := "fnExactCombineCarries", fn := fun _ => fun
  | [d] => { results := [.lit (.bool true)], args := [d] }
  | _ => none }
def fnExactCombineCarriesRow : OpenClaim := { program := "yteabibkbmigpaaa", sum := "d9d4332cf513494566ac9089e0fd9bbfc0dce91fea94ab6536dec6c814de44bd", func := "loop.example/g03228/laws.FnExactCombineCarries", spec := "fnExactCombineCarries", apart := false }
def FnExactCombineCarriesSaid : Prop := fnExactCombineCarriesRow.holds Try.pinned (OpenSpec.ofChange fnExactCombineCarriesSpec)

/-- ITS FALSE NEIGHBOUR: 'it returns false'. Refute it at one input. -/
def fnExactCombineCarriesWrong : ChangeSpec := { name := "fnExactCombineCarries", fn := fun _ => fun
  | [d] => { results := [.lit (.bool false)], args := [d] }
  | _ => none }
def FnExactCombineCarriesWrongFalsely : Prop := fnExactCombineCarriesRow.holds Try.pinned (OpenSpec.ofChange fnExactCombineCarriesWrong)

/-- 'laws.FnExactRestsOf': WHATEVER THE INPUT: true; the input reads as it did. -/
def fnExactRestsOfSpec : ChangeSpec := { name := "fnExactRestsOf", fn := fun _ => fun
  | [d1, d2, d3] => { results := [.lit (.bool true)], args := [d1, d2, d3] }
  | _ => none }
def fnExactRestsOfRow : OpenClaim := { program := "yteabibkbmigpaaa", sum := "d9d4332cf513494566ac9089e0fd9bbfc0dce91fea94ab6536dec6c814de44bd", func := "loop.example/g03228/laws.FnExactRestsOf", spec := "fnExactRestsOf", unfollowed := true, recurses := true, apart := false }
def FnExactRestsOfSaid : Prop := fnExactRestsOfRow.holds Try.pinned (OpenSpec.ofChange fnExactRestsOfSpec)

/-- ITS FALSE NEIGHBOUR: 'it returns false'. Refute it at one input. -/
def fnExactRestsOfWrong : ChangeSpec := { name := "fnExactRestsOf", fn := fun _ => fun
  | [d1, d2, d3] => { results := [.lit (.bool false)], args := [d1, d2, d3] }
  | _ => none }
def FnExactRestsOfWrongFalsely : Prop := fnExactRestsOfRow.holds Try.pinned (OpenSpec.ofChange fnExactRestsOfWrong)

/-- 'laws.FnExactRunAccumulator': WHATEVER THE INPUT: true; the input reads as it did. -/
def fnExactRunAccumulatorSpec : ChangeSpec := { name := "fnExactRunAccumulator", fn := fun _ => fun
  | [d1, d2, d3] => { results := [.lit (.bool true)], args := [d1, d2, d3] }
  | _ => none }
def fnExactRunAccumulatorRow : OpenClaim := { program := "yteabibkbmigpaaa", sum := "d9d4332cf513494566ac9089e0fd9bbfc0dce91fea94ab6536dec6c814de44bd", func := "loop.example/g03228/laws.FnExactRunAccumulator", spec := "fnExactRunAccumulator", unfollowed := true, recurses := true, apart := false }
def FnExactRunAccumulatorSaid : Prop := fnExactRunAccumulatorRow.holds Try.pinned (OpenSpec.ofChange fnExactRunAccumulatorSpec)

/-- ITS FALSE NEIGHBOUR: 'it returns false'. Refute it at one input. -/
def fnExactRunAccumulatorWrong : ChangeSpec := { name := "fnExactRunAccumulator", fn := fun _ => fun
  | [d1, d2, d3] => { results := [.lit (.bool false)], args := [d1, d2, d3] }
  | _ => none }
def FnExactRunAccumulatorWrongFalsely : Prop := fnExactRunAccumulatorRow.holds Try.pinned (OpenSpec.ofChange fnExactRunAccumulatorWrong)

/-- 'laws.FnAccCut': WHATEVER THE INPUT: true; the input reads as it did. -/
def fnAccCutSpec : ChangeSpec := { name := "fnAccCut", fn := fun _ => fun
  | [d] => { results := [.lit (.bool true)], args := [d] }
  | _ => none }
def fnAccCutRow : OpenClaim := { program := "yteabibkbmigpaaa", sum := "d9d4332cf513494566ac9089e0fd9bbfc0dce91fea94ab6536dec6c814de44bd", func := "loop.example/g03228/laws.FnAccCut", spec := "fnAccCut", unfollowed := true, recurses := true, apart := false }
def FnAccCutSaid : Prop := fnAccCutRow.holds Try.pinned (OpenSpec.ofChange fnAccCutSpec)

/-- ITS FALSE NEIGHBOUR: 'it returns false'. Refute it at one input. -/
def fnAccCutWrong : ChangeSpec := { name := "fnAccCut", fn := fun _ => fun
  | [d] => { results := [.lit (.bool false)], args := [d] }
  | _ => none }
def FnAccCutWrongFalsely : Prop := fnAccCutRow.holds Try.pinned (OpenSpec.ofChange fnAccCutWrong)

/-- 'laws.FnCarries': WHATEVER THE INPUT: true; the input reads as it did. -/
def fnCarriesSpec : ChangeSpec := { name := "fnCarries", fn := fun _ => fun
  | [d] => { results := [.lit (.bool true)], args := [d] }
  | _ => none }
def fnCarriesRow : OpenClaim := { program := "yteabibkbmigpaaa", sum := "d9d4332cf513494566ac9089e0fd9bbfc0dce91fea94ab6536dec6c814de44bd", func := "loop.example/g03228/laws.FnCarries", spec := "fnCarries", unfollowed := true, recurses := true, apart := false }
def FnCarriesSaid : Prop := fnCarriesRow.holds Try.pinned (OpenSpec.ofChange fnCarriesSpec)

/-- ITS FALSE NEIGHBOUR: 'it returns false'. Refute it at one input. -/
def fnCarriesWrong : ChangeSpec := { name := "fnCarries", fn := fun _ => fun
  | [d] => { results := [.lit (.bool false)], args := [d] }
  | _ => none }
def FnCarriesWrongFalsely : Prop := fnCarriesRow.holds Try.pinned (OpenSpec.ofChange fnCarriesWrong)

/-- 'laws.FnCycle': WHATEVER THE INPUT: true; the input reads as it did. -/
def fnCycleSpec : ChangeSpec := { name := "fnCycle", fn := fun _ => fun
  | [d] => { results := [.lit (.bool true)], args := [d] }
  | _ => none }
def fnCycleRow : OpenClaim := { program := "yteabibkbmigpaaa", sum := "d9d4332cf513494566ac9089e0fd9bbfc0dce91fea94ab6536dec6c814de44bd", func := "loop.example/g03228/laws.FnCycle", spec := "fnCycle", unfollowed := true, recurses := true, apart := false }
def FnCycleSaid : Prop := fnCycleRow.holds Try.pinned (OpenSpec.ofChange fnCycleSpec)

/-- ITS FALSE NEIGHBOUR: 'it returns false'. Refute it at one input. -/
def fnCycleWrong : ChangeSpec := { name := "fnCycle", fn := fun _ => fun
  | [d] => { results := [.lit (.bool false)], args := [d] }
  | _ => none }
def FnCycleWrongFalsely : Prop := fnCycleRow.holds Try.pinned (OpenSpec.ofChange fnCycleWrong)

/-- 'laws.FnCarryWord': WHATEVER THE INPUT: true; the input reads as it did. -/
def fnCarryWordSpec : ChangeSpec := { name := "fnCarryWord", fn := fun _ => fun
  | [d] => { results := [.lit (.bool true)], args := [d] }
  | _ => none }
def fnCarryWordRow : OpenClaim := { program := "yteabibkbmigpaaa", sum := "d9d4332cf513494566ac9089e0fd9bbfc0dce91fea94ab6536dec6c814de44bd", func := "loop.example/g03228/laws.FnCarryWord", spec := "fnCarryWord", unfollowed := true, recurses := true, apart := false }
def FnCarryWordSaid : Prop := fnCarryWordRow.holds Try.pinned (OpenSpec.ofChange fnCarryWordSpec)

/-- ITS FALSE NEIGHBOUR: 'it returns false'. Refute it at one input. -/
def fnCarryWordWrong : ChangeSpec := { name := "fnCarryWord", fn := fun _ => fun
  | [d] => { results := [.lit (.bool false)], args := [d] }
  | _ => none }
def FnCarryWordWrongFalsely : Prop := fnCarryWordRow.holds Try.pinned (OpenSpec.ofChange fnCarryWordWrong)

/-- 'laws.FnDithered': WHATEVER THE INPUT: true; the input reads as it did. -/
def fnDitheredSpec : ChangeSpec := { name := "fnDithered", fn := fun _ => fun
  | [d] => { results := [.lit (.bool true)], args := [d] }
  | _ => none }
def fnDitheredRow : OpenClaim := { program := "yteabibkbmigpaaa", sum := "d9d4332cf513494566ac9089e0fd9bbfc0dce91fea94ab6536dec6c814de44bd", func := "loop.example/g03228/laws.FnDithered", spec := "fnDithered", apart := false }
def FnDitheredSaid : Prop := fnDitheredRow.holds Try.pinned (OpenSpec.ofChange fnDitheredSpec)

/-- ITS FALSE NEIGHBOUR: 'it returns false'. Refute it at one input. -/
def fnDitheredWrong : ChangeSpec := { name := "fnDithered", fn := fun _ => fun
  | [d] => { results := [.lit (.bool false)], args := [d] }
  | _ => none }
def FnDitheredWrongFalsely : Prop := fnDitheredRow.holds Try.pinned (OpenSpec.ofChange fnDitheredWrong)

/-- 'laws.FnRanges': WHATEVER THE INPUT: true; the input reads as it did. -/
def fnRangesSpec : ChangeSpec := { name := "fnRanges", fn := fun _ => fun
  | [d] => { results := [.lit (.bool true)], args := [d] }
  | _ => none }
def fnRangesRow : OpenClaim := { program := "yteabibkbmigpaaa", sum := "d9d4332cf513494566ac9089e0fd9bbfc0dce91fea94ab6536dec6c814de44bd", func := "loop.example/g03228/laws.FnRanges", spec := "fnRanges", apart := false }
def FnRangesSaid : Prop := fnRangesRow.holds Try.pinned (OpenSpec.ofChange fnRangesSpec)

/-- ITS FALSE NEIGHBOUR: 'it returns false'. Refute it at one input. -/
def fnRangesWrong : ChangeSpec := { name := "fnRanges", fn := fun _ => fun
  | [d] => { results := [.lit (.bool false)], args := [d] }
  | _ => none }
def FnRangesWrongFalsely : Prop := fnRangesRow.holds Try.pinned (OpenSpec.ofChange fnRangesWrong)

/- THE SECOND FORM. 'bulk': how many values and letters a reading holds, each counted each time it is reached (what is shared counts as often as it is met; a slice's spare places count too). A statement '..UptoSaid' is the law's where the arguments, and the package variables that the reading takes, are together of bulk at most 1048576: NARROWER than '..Said'. Prove '..Said' where nothing that the law and all that it calls make is longer than what came in: it says more and counts as full. Else prove '..UptoSaid'. A law counts once. -/
mutual
def uptoBulk {H : Type} : DataW H → Nat
  | .lit (.string bytes) => bytes.length + 1
  | .lit _ => 1
  | .nil => 1
  | .ptr d => uptoBulk d + 1
  | .slice elems spare => uptoBulkAll elems + uptoBulkAll spare + 1
  | .agg parts => uptoBulkAll parts + 1
  | .iface _ d => uptoBulk d + 1
  | .map entries => uptoBulkEntries entries + 1
  | .held _ => 1
def uptoBulkAll {H : Type} : List (DataW H) → Nat
  | [] => 0
  | d :: r => uptoBulk d + uptoBulkAll r
def uptoBulkEntries {H : Type} : List (Lit × DataW H) → Nat
  | [] => 0
  | x :: r => uptoBulkEntry x + uptoBulkEntries r
def uptoBulkEntry {H : Type} : Lit × DataW H → Nat
  | (.string bytes, d) => bytes.length + uptoBulk d + 1
  | (_, d) => uptoBulk d + 1
 end
def uptoSmall : (H : Type) → List (DataW H) → Bool := fun _ ds => decide (uptoBulkAll ds ≤ 1048576)
def OpenSpec.upto (s : _root_.Go.ChangeSpec) : _root_.Go.OpenSpec := { _root_.Go.OpenSpec.ofChange s with cond := some uptoSmall }

/-- 'laws.FnStages', WHERE WHAT IT READS IS OF BULK AT MOST 1048576: true; the input reads as it did. -/
def fnStagesUptoRow : OpenClaim := { program := "yteabibkbmigpaaa", sum := "d9d4332cf513494566ac9089e0fd9bbfc0dce91fea94ab6536dec6c814de44bd", func := "loop.example/g03228/laws.FnStages", spec := "fnStages", unfollowed := true, recurses := true, apart := false, narrowed := true }
def FnStagesUptoSaid : Prop := fnStagesUptoRow.holds Try.pinned (OpenSpec.upto fnStagesSpec)

/-- 'laws.FnExactStepAccumulator', WHERE WHAT IT READS IS OF BULK AT MOST 1048576: true; the input reads as it did. -/
def fnExactStepAccumulatorUptoRow : OpenClaim := { program := "yteabibkbmigpaaa", sum := "d9d4332cf513494566ac9089e0fd9bbfc0dce91fea94ab6536dec6c814de44bd", func := "loop.example/g03228/laws.FnExactStepAccumulator", spec := "fnExactStepAccumulator", unfollowed := true, recurses := true, apart := false, narrowed := true }
def FnExactStepAccumulatorUptoSaid : Prop := fnExactStepAccumulatorUptoRow.holds Try.pinned (OpenSpec.upto fnExactStepAccumulatorSpec)

/-- 'laws.FnExactCycleOf', WHERE WHAT IT READS IS OF BULK AT MOST 1048576: true; the input reads as it did. -/
def fnExactCycleOfUptoRow : OpenClaim := { program := "yteabibkbmigpaaa", sum := "d9d4332cf513494566ac9089e0fd9bbfc0dce91fea94ab6536dec6c814de44bd", func := "loop.example/g03228/laws.FnExactCycleOf", spec := "fnExactCycleOf", unfollowed := true, recurses := true, apart := false, narrowed := true }
def FnExactCycleOfUptoSaid : Prop := fnExactCycleOfUptoRow.holds Try.pinned (OpenSpec.upto fnExactCycleOfSpec)

/-- 'laws.FnExactCombineCarries', WHERE WHAT IT READS IS OF BULK AT MOST 1048576: true; the input reads as it did. -/
def fnExactCombineCarriesUptoRow : OpenClaim := { program := "yteabibkbmigpaaa", sum := "d9d4332cf513494566ac9089e0fd9bbfc0dce91fea94ab6536dec6c814de44bd", func := "loop.example/g03228/laws.FnExactCombineCarries", spec := "fnExactCombineCarries", apart := false, narrowed := true }
def FnExactCombineCarriesUptoSaid : Prop := fnExactCombineCarriesUptoRow.holds Try.pinned (OpenSpec.upto fnExactCombineCarriesSpec)

/-- 'laws.FnExactRestsOf', WHERE WHAT IT READS IS OF BULK AT MOST 1048576: true; the input reads as it did. -/
def fnExactRestsOfUptoRow : OpenClaim := { program := "yteabibkbmigpaaa", sum := "d9d4332cf513494566ac9089e0fd9bbfc0dce91fea94ab6536dec6c814de44bd", func := "loop.example/g03228/laws.FnExactRestsOf", spec := "fnExactRestsOf", unfollowed := true, recurses := true, apart := false, narrowed := true }
def FnExactRestsOfUptoSaid : Prop := fnExactRestsOfUptoRow.holds Try.pinned (OpenSpec.upto fnExactRestsOfSpec)

/-- 'laws.FnExactRunAccumulator', WHERE WHAT IT READS IS OF BULK AT MOST 1048576: true; the input reads as it did. -/
def fnExactRunAccumulatorUptoRow : OpenClaim := { program := "yteabibkbmigpaaa", sum := "d9d4332cf513494566ac9089e0fd9bbfc0dce91fea94ab6536dec6c814de44bd", func := "loop.example/g03228/laws.FnExactRunAccumulator", spec := "fnExactRunAccumulator", unfollowed := true, recurses := true, apart := false, narrowed := true }
def FnExactRunAccumulatorUptoSaid : Prop := fnExactRunAccumulatorUptoRow.holds Try.pinned (OpenSpec.upto fnExactRunAccumulatorSpec)

/-- 'laws.FnAccCut', WHERE WHAT IT READS IS OF BULK AT MOST 1048576: true; the input reads as it did. -/
def fnAccCutUptoRow : OpenClaim := { program := "yteabibkbmigpaaa", sum := "d9d4332cf513494566ac9089e0fd9bbfc0dce91fea94ab6536dec6c814de44bd", func := "loop.example/g03228/laws.FnAccCut", spec := "fnAccCut", unfollowed := true, recurses := true, apart := false, narrowed := true }
def FnAccCutUptoSaid : Prop := fnAccCutUptoRow.holds Try.pinned (OpenSpec.upto fnAccCutSpec)

/-- 'laws.FnCarries', WHERE WHAT IT READS IS OF BULK AT MOST 1048576: true; the input reads as it did. -/
def fnCarriesUptoRow : OpenClaim := { program := "yteabibkbmigpaaa", sum := "d9d4332cf513494566ac9089e0fd9bbfc0dce91fea94ab6536dec6c814de44bd", func := "loop.example/g03228/laws.FnCarries", spec := "fnCarries", unfollowed := true, recurses := true, apart := false, narrowed := true }
def FnCarriesUptoSaid : Prop := fnCarriesUptoRow.holds Try.pinned (OpenSpec.upto fnCarriesSpec)

/-- 'laws.FnCycle', WHERE WHAT IT READS IS OF BULK AT MOST 1048576: true; the input reads as it did. -/
def fnCycleUptoRow : OpenClaim := { program := "yteabibkbmigpaaa", sum := "d9d4332cf513494566ac9089e0fd9bbfc0dce91fea94ab6536dec6c814de44bd", func := "loop.example/g03228/laws.FnCycle", spec := "fnCycle", unfollowed := true, recurses := true, apart := false, narrowed := true }
def FnCycleUptoSaid : Prop := fnCycleUptoRow.holds Try.pinned (OpenSpec.upto fnCycleSpec)

/-- 'laws.FnCarryWord', WHERE WHAT IT READS IS OF BULK AT MOST 1048576: true; the input reads as it did. -/
def fnCarryWordUptoRow : OpenClaim := { program := "yteabibkbmigpaaa", sum := "d9d4332cf513494566ac9089e0fd9bbfc0dce91fea94ab6536dec6c814de44bd", func := "loop.example/g03228/laws.FnCarryWord", spec := "fnCarryWord", unfollowed := true, recurses := true, apart := false, narrowed := true }
def FnCarryWordUptoSaid : Prop := fnCarryWordUptoRow.holds Try.pinned (OpenSpec.upto fnCarryWordSpec)

/-- 'laws.FnDithered', WHERE WHAT IT READS IS OF BULK AT MOST 1048576: true; the input reads as it did. -/
def fnDitheredUptoRow : OpenClaim := { program := "yteabibkbmigpaaa", sum := "d9d4332cf513494566ac9089e0fd9bbfc0dce91fea94ab6536dec6c814de44bd", func := "loop.example/g03228/laws.FnDithered", spec := "fnDithered", apart := false, narrowed := true }
def FnDitheredUptoSaid : Prop := fnDitheredUptoRow.holds Try.pinned (OpenSpec.upto fnDitheredSpec)

/-- 'laws.FnRanges', WHERE WHAT IT READS IS OF BULK AT MOST 1048576: true; the input reads as it did. -/
def fnRangesUptoRow : OpenClaim := { program := "yteabibkbmigpaaa", sum := "d9d4332cf513494566ac9089e0fd9bbfc0dce91fea94ab6536dec6c814de44bd", func := "loop.example/g03228/laws.FnRanges", spec := "fnRanges", apart := false, narrowed := true }
def FnRangesUptoSaid : Prop := fnRangesUptoRow.holds Try.pinned (OpenSpec.upto fnRangesSpec)

end Rows
end Go.Proofs.Yteabibkbmigpaaa
