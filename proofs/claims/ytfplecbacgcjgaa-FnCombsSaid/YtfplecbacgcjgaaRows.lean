/-
  No cell of these rows narrows 'for every input' (looked for: loops, veiled, ifaces, maps, wideKeys, modest, calm, conditions, laid).
  DERIVED. THE GIVEN ROWS OF THIS SEAT. 10 by the template 'for every input the law returns true; each argument reads behind the call as it read before'; 0 by the template 'total and deterministic' (their statements: YtfplecbacgcjgaaTotals.lean).
  GIVEN WITH THE SEED: the statements are not yours to turn. If you find one false, say at which input.
  Laid BY PROGRAM, IN A SANDBOX (cutbox-rows.mjs): the forced cells as the released guide's own fill.sh prints them over the translation 60615caa2f9b0f55… (all of the seat's roots in one cut). By AI agents, Wed Nov 11 2026. No macro, syntax, notation, axiom, sorry.
-/
import Derived.Test.YtfplecbacgcjgaaChecked
import GoSem.Claim
import GoSem.ClaimJoined
import GoSem.ClaimMapViews
import Derived.JoinedTies
import Derived.KernelRfl
namespace Go.Proofs.Ytfplecbacgcjgaa
/- THE CELL 'sum', in the pinned program and in every row, IS THE sha256 OF THE DUMP (.gsa) THAT YtfplecbacgcjgaaProg.lean LOADS. Nothing in Lean hashes anything: it is a label: what it is worth is what the hold of that sum in a sandbox is worth. -/
noncomputable def Try.pinned : Pinned := { name := "ytfplecbacgcjgaa", sum := "60615caa2f9b0f55bdb89cdefd115cad055a1391ddcba7dd47498ee31b38430b", checked := Try.checked }
namespace Rows
def none {H : Type} : Left H := { results := [], args := [] }

/-- 'laws.FnWidth': WHATEVER THE INPUT: true; the input reads as it did. -/
def fnWidthSpec : ChangeSpec := { name := "fnWidth", fn := fun _ => fun
  | [d] => { results := [.lit (.bool true)], args := [d] }
  | _ => none }
def fnWidthRow : OpenClaim := { program := "ytfplecbacgcjgaa", sum := "60615caa2f9b0f55bdb89cdefd115cad055a1391ddcba7dd47498ee31b38430b", func := "loop.example/g03228/laws.FnWidth", spec := "fnWidth", apart := false }
def FnWidthSaid : Prop := fnWidthRow.holds Try.pinned (OpenSpec.ofChange fnWidthSpec)

/-- ITS FALSE NEIGHBOUR: 'it returns false'. Refute it at one input. -/
def fnWidthWrong : ChangeSpec := { name := "fnWidth", fn := fun _ => fun
  | [d] => { results := [.lit (.bool false)], args := [d] }
  | _ => none }
def FnWidthWrongFalsely : Prop := fnWidthRow.holds Try.pinned (OpenSpec.ofChange fnWidthWrong)

/-- 'laws.FnCombWrapped': WHATEVER THE INPUT: true; the input reads as it did. -/
def fnCombWrappedSpec : ChangeSpec := { name := "fnCombWrapped", fn := fun _ => fun
  | [d] => { results := [.lit (.bool true)], args := [d] }
  | _ => none }
def fnCombWrappedRow : OpenClaim := { program := "ytfplecbacgcjgaa", sum := "60615caa2f9b0f55bdb89cdefd115cad055a1391ddcba7dd47498ee31b38430b", func := "loop.example/g03228/laws.FnCombWrapped", spec := "fnCombWrapped", unfollowed := true, recurses := true, apart := false }
def FnCombWrappedSaid : Prop := fnCombWrappedRow.holds Try.pinned (OpenSpec.ofChange fnCombWrappedSpec)

/-- ITS FALSE NEIGHBOUR: 'it returns false'. Refute it at one input. -/
def fnCombWrappedWrong : ChangeSpec := { name := "fnCombWrapped", fn := fun _ => fun
  | [d] => { results := [.lit (.bool false)], args := [d] }
  | _ => none }
def FnCombWrappedWrongFalsely : Prop := fnCombWrappedRow.holds Try.pinned (OpenSpec.ofChange fnCombWrappedWrong)

/-- 'laws.FnCombs': WHATEVER THE INPUT: true; the input reads as it did. -/
def fnCombsSpec : ChangeSpec := { name := "fnCombs", fn := fun _ => fun
  | [d] => { results := [.lit (.bool true)], args := [d] }
  | _ => none }
def fnCombsRow : OpenClaim := { program := "ytfplecbacgcjgaa", sum := "60615caa2f9b0f55bdb89cdefd115cad055a1391ddcba7dd47498ee31b38430b", func := "loop.example/g03228/laws.FnCombs", spec := "fnCombs", unfollowed := true, recurses := true, apart := false }
def FnCombsSaid : Prop := fnCombsRow.holds Try.pinned (OpenSpec.ofChange fnCombsSpec)

/-- ITS FALSE NEIGHBOUR: 'it returns false'. Refute it at one input. -/
def fnCombsWrong : ChangeSpec := { name := "fnCombs", fn := fun _ => fun
  | [d] => { results := [.lit (.bool false)], args := [d] }
  | _ => none }
def FnCombsWrongFalsely : Prop := fnCombsRow.holds Try.pinned (OpenSpec.ofChange fnCombsWrong)

/-- 'laws.FnExactIsCombState': WHATEVER THE INPUT: true; the input reads as it did. -/
def fnExactIsCombStateSpec : ChangeSpec := { name := "fnExactIsCombState", fn := fun _ => fun
  | [d1, d2] => { results := [.lit (.bool true)], args := [d1, d2] }
  | _ => none }
def fnExactIsCombStateRow : OpenClaim := { program := "ytfplecbacgcjgaa", sum := "60615caa2f9b0f55bdb89cdefd115cad055a1391ddcba7dd47498ee31b38430b", func := "loop.example/g03228/laws.FnExactIsCombState", spec := "fnExactIsCombState", unfollowed := true, recurses := true, apart := false }
def FnExactIsCombStateSaid : Prop := fnExactIsCombStateRow.holds Try.pinned (OpenSpec.ofChange fnExactIsCombStateSpec)

/-- ITS FALSE NEIGHBOUR: 'it returns false'. Refute it at one input. -/
def fnExactIsCombStateWrong : ChangeSpec := { name := "fnExactIsCombState", fn := fun _ => fun
  | [d1, d2] => { results := [.lit (.bool false)], args := [d1, d2] }
  | _ => none }
def FnExactIsCombStateWrongFalsely : Prop := fnExactIsCombStateRow.holds Try.pinned (OpenSpec.ofChange fnExactIsCombStateWrong)

/-- 'laws.FnExactExactComb': WHATEVER THE INPUT: true; the input reads as it did. -/
def fnExactExactCombSpec : ChangeSpec := { name := "fnExactExactComb", fn := fun _ => fun
  | [d1, d2] => { results := [.lit (.bool true)], args := [d1, d2] }
  | _ => none }
def fnExactExactCombRow : OpenClaim := { program := "ytfplecbacgcjgaa", sum := "60615caa2f9b0f55bdb89cdefd115cad055a1391ddcba7dd47498ee31b38430b", func := "loop.example/g03228/laws.FnExactExactComb", spec := "fnExactExactComb", apart := false }
def FnExactExactCombSaid : Prop := fnExactExactCombRow.holds Try.pinned (OpenSpec.ofChange fnExactExactCombSpec)

/-- ITS FALSE NEIGHBOUR: 'it returns false'. Refute it at one input. -/
def fnExactExactCombWrong : ChangeSpec := { name := "fnExactExactComb", fn := fun _ => fun
  | [d1, d2] => { results := [.lit (.bool false)], args := [d1, d2] }
  | _ => none }
def FnExactExactCombWrongFalsely : Prop := fnExactExactCombRow.holds Try.pinned (OpenSpec.ofChange fnExactExactCombWrong)

/-- 'laws.FnExactClearComb': WHATEVER THE INPUT: true; the input reads as it did. -/
def fnExactClearCombSpec : ChangeSpec := { name := "fnExactClearComb", fn := fun _ => fun
  | [d1, d2] => { results := [.lit (.bool true)], args := [d1, d2] }
  | _ => none }
def fnExactClearCombRow : OpenClaim := { program := "ytfplecbacgcjgaa", sum := "60615caa2f9b0f55bdb89cdefd115cad055a1391ddcba7dd47498ee31b38430b", func := "loop.example/g03228/laws.FnExactClearComb", spec := "fnExactClearComb", unfollowed := true, recurses := true, apart := false }
def FnExactClearCombSaid : Prop := fnExactClearCombRow.holds Try.pinned (OpenSpec.ofChange fnExactClearCombSpec)

/-- ITS FALSE NEIGHBOUR: 'it returns false'. Refute it at one input. -/
def fnExactClearCombWrong : ChangeSpec := { name := "fnExactClearComb", fn := fun _ => fun
  | [d1, d2] => { results := [.lit (.bool false)], args := [d1, d2] }
  | _ => none }
def FnExactClearCombWrongFalsely : Prop := fnExactClearCombRow.holds Try.pinned (OpenSpec.ofChange fnExactClearCombWrong)

/-- 'laws.FnCombCut': WHATEVER THE INPUT: true; the input reads as it did. -/
def fnCombCutSpec : ChangeSpec := { name := "fnCombCut", fn := fun _ => fun
  | [d] => { results := [.lit (.bool true)], args := [d] }
  | _ => none }
def fnCombCutRow : OpenClaim := { program := "ytfplecbacgcjgaa", sum := "60615caa2f9b0f55bdb89cdefd115cad055a1391ddcba7dd47498ee31b38430b", func := "loop.example/g03228/laws.FnCombCut", spec := "fnCombCut", unfollowed := true, recurses := true, apart := false }
def FnCombCutSaid : Prop := fnCombCutRow.holds Try.pinned (OpenSpec.ofChange fnCombCutSpec)

/-- ITS FALSE NEIGHBOUR: 'it returns false'. Refute it at one input. -/
def fnCombCutWrong : ChangeSpec := { name := "fnCombCut", fn := fun _ => fun
  | [d] => { results := [.lit (.bool false)], args := [d] }
  | _ => none }
def FnCombCutWrongFalsely : Prop := fnCombCutRow.holds Try.pinned (OpenSpec.ofChange fnCombCutWrong)

/-- 'laws.FnExactSpreadComb': WHATEVER THE INPUT: true; the input reads as it did. -/
def fnExactSpreadCombSpec : ChangeSpec := { name := "fnExactSpreadComb", fn := fun _ => fun
  | [d1, d2] => { results := [.lit (.bool true)], args := [d1, d2] }
  | _ => none }
def fnExactSpreadCombRow : OpenClaim := { program := "ytfplecbacgcjgaa", sum := "60615caa2f9b0f55bdb89cdefd115cad055a1391ddcba7dd47498ee31b38430b", func := "loop.example/g03228/laws.FnExactSpreadComb", spec := "fnExactSpreadComb", apart := false }
def FnExactSpreadCombSaid : Prop := fnExactSpreadCombRow.holds Try.pinned (OpenSpec.ofChange fnExactSpreadCombSpec)

/-- ITS FALSE NEIGHBOUR: 'it returns false'. Refute it at one input. -/
def fnExactSpreadCombWrong : ChangeSpec := { name := "fnExactSpreadComb", fn := fun _ => fun
  | [d1, d2] => { results := [.lit (.bool false)], args := [d1, d2] }
  | _ => none }
def FnExactSpreadCombWrongFalsely : Prop := fnExactSpreadCombRow.holds Try.pinned (OpenSpec.ofChange fnExactSpreadCombWrong)

/-- 'laws.FnSpread': WHATEVER THE INPUT: true; the input reads as it did. -/
def fnSpreadSpec : ChangeSpec := { name := "fnSpread", fn := fun _ => fun
  | [d] => { results := [.lit (.bool true)], args := [d] }
  | _ => none }
def fnSpreadRow : OpenClaim := { program := "ytfplecbacgcjgaa", sum := "60615caa2f9b0f55bdb89cdefd115cad055a1391ddcba7dd47498ee31b38430b", func := "loop.example/g03228/laws.FnSpread", spec := "fnSpread", apart := false }
def FnSpreadSaid : Prop := fnSpreadRow.holds Try.pinned (OpenSpec.ofChange fnSpreadSpec)

/-- ITS FALSE NEIGHBOUR: 'it returns false'. Refute it at one input. -/
def fnSpreadWrong : ChangeSpec := { name := "fnSpread", fn := fun _ => fun
  | [d] => { results := [.lit (.bool false)], args := [d] }
  | _ => none }
def FnSpreadWrongFalsely : Prop := fnSpreadRow.holds Try.pinned (OpenSpec.ofChange fnSpreadWrong)

/-- 'laws.FnExactRunComb': WHATEVER THE INPUT: true; the input reads as it did. -/
def fnExactRunCombSpec : ChangeSpec := { name := "fnExactRunComb", fn := fun _ => fun
  | [d1, d2, d3] => { results := [.lit (.bool true)], args := [d1, d2, d3] }
  | _ => none }
def fnExactRunCombRow : OpenClaim := { program := "ytfplecbacgcjgaa", sum := "60615caa2f9b0f55bdb89cdefd115cad055a1391ddcba7dd47498ee31b38430b", func := "loop.example/g03228/laws.FnExactRunComb", spec := "fnExactRunComb", unfollowed := true, recurses := true, apart := false }
def FnExactRunCombSaid : Prop := fnExactRunCombRow.holds Try.pinned (OpenSpec.ofChange fnExactRunCombSpec)

/-- ITS FALSE NEIGHBOUR: 'it returns false'. Refute it at one input. -/
def fnExactRunCombWrong : ChangeSpec := { name := "fnExactRunComb", fn := fun _ => fun
  | [d1, d2, d3] => { results := [.lit (.bool false)], args := [d1, d2, d3] }
  | _ => none }
def FnExactRunCombWrongFalsely : Prop := fnExactRunCombRow.holds Try.pinned (OpenSpec.ofChange fnExactRunCombWrong)

/- THE SECOND FORM. 'bulk': how many values and letters a reading holds, each counted each time it is reached (what is shared counts as often as it is met; a slice's spare places count too). A statement '..UptoSaid' is the law's where the arguments, and the package variables that the reading takes, are together of bulk at most 1048576: NARROWER than '..Said'. Prove '..Said' where nothing that the law and all that it calls make is longer than what came in: it says more and counts as full. Else prove '..UptoSaid'. A law counts once. -/
mutual
def uptoBulk {H : Type} : DataW H → Nat
  | .lit (.string bytes) => bytes.length + 1
  | .lit _ => 1
  | .nil => 1
  | .ptr d => uptoBulk d + 1
  | .slice elems spare => uptoBulkAll elems + uptoBulkAll spare + 1
  | .agg parts => uptoBulkAll parts + 1
  | .iface _ d => uptoBulk d + 1
  | .map entries => uptoBulkEntries entries + 1
  | .held _ => 1
def uptoBulkAll {H : Type} : List (DataW H) → Nat
  | [] => 0
  | d :: r => uptoBulk d + uptoBulkAll r
def uptoBulkEntries {H : Type} : List (Lit × DataW H) → Nat
  | [] => 0
  | x :: r => uptoBulkEntry x + uptoBulkEntries r
def uptoBulkEntry {H : Type} : Lit × DataW H → Nat
  | (.string bytes, d) => bytes.length + uptoBulk d + 1
  | (_, d) => uptoBulk d + 1
 end
def uptoSmall : (H : Type) → List (DataW H) → Bool := fun _ ds => decide (uptoBulkAll ds ≤ 1048576)
def OpenSpec.upto (s : _root_.Go.ChangeSpec) : _root_.Go.OpenSpec := { _root_.Go.OpenSpec.ofChange s with cond := some uptoSmall }

/-- 'laws.FnWidth', WHERE WHAT IT READS IS OF BULK AT MOST 1048576: true; the input reads as it did. -/
def fnWidthUptoRow : OpenClaim := { program := "ytfplecbacgcjgaa", sum := "60615caa2f9b0f55bdb89cdefd115cad055a1391ddcba7dd47498ee31b38430b", func := "loop.example/g03228/laws.FnWidth", spec := "fnWidth", apart := false, narrowed := true }
def FnWidthUptoSaid : Prop := fnWidthUptoRow.holds Try.pinned (OpenSpec.upto fnWidthSpec)

/-- 'laws.FnCombWrapped', WHERE WHAT IT READS IS OF BULK AT MOST 1048576: true; the input reads as it did. -/
def fnCombWrappedUptoRow : OpenClaim := { program := "ytfplecbacgcjgaa", sum := "60615caa2f9b0f55bdb89cdefd115cad055a1391ddcba7dd47498ee31b38430b", func := "loop.example/g03228/laws.FnCombWrapped", spec := "fnCombWrapped", unfollowed := true, recurses := true, apart := false, narrowed := true }
def FnCombWrappedUptoSaid : Prop := fnCombWrappedUptoRow.holds Try.pinned (OpenSpec.upto fnCombWrappedSpec)

/-- 'laws.FnCombs', WHERE WHAT IT READS IS OF BULK AT MOST 1048576: true; the input reads as it did. -/
def fnCombsUptoRow : OpenClaim := { program := "ytfplecbacgcjgaa", sum := "60615caa2f9b0f55bdb89cdefd115cad055a1391ddcba7dd47498ee31b38430b", func := "loop.example/g03228/laws.FnCombs", spec := "fnCombs", unfollowed := true, recurses := true, apart := false, narrowed := true }
def FnCombsUptoSaid : Prop := fnCombsUptoRow.holds Try.pinned (OpenSpec.upto fnCombsSpec)

/-- 'laws.FnExactIsCombState', WHERE WHAT IT READS IS OF BULK AT MOST 1048576: true; the input reads as it did. -/
def fnExactIsCombStateUptoRow : OpenClaim := { program := "ytfplecbacgcjgaa", sum := "60615caa2f9b0f55bdb89cdefd115cad055a1391ddcba7dd47498ee31b38430b", func := "loop.example/g03228/laws.FnExactIsCombState", spec := "fnExactIsCombState", unfollowed := true, recurses := true, apart := false, narrowed := true }
def FnExactIsCombStateUptoSaid : Prop := fnExactIsCombStateUptoRow.holds Try.pinned (OpenSpec.upto fnExactIsCombStateSpec)

/-- 'laws.FnExactExactComb', WHERE WHAT IT READS IS OF BULK AT MOST 1048576: true; the input reads as it did. -/
def fnExactExactCombUptoRow : OpenClaim := { program := "ytfplecbacgcjgaa", sum := "60615caa2f9b0f55bdb89cdefd115cad055a1391ddcba7dd47498ee31b38430b", func := "loop.example/g03228/laws.FnExactExactComb", spec := "fnExactExactComb", apart := false, narrowed := true }
def FnExactExactCombUptoSaid : Prop := fnExactExactCombUptoRow.holds Try.pinned (OpenSpec.upto fnExactExactCombSpec)

/-- 'laws.FnExactClearComb', WHERE WHAT IT READS IS OF BULK AT MOST 1048576: true; the input reads as it did. -/
def fnExactClearCombUptoRow : OpenClaim := { program := "ytfplecbacgcjgaa", sum := "60615caa2f9b0f55bdb89cdefd115cad055a1391ddcba7dd47498ee31b38430b", func := "loop.example/g03228/laws.FnExactClearComb", spec := "fnExactClearComb", unfollowed := true, recurses := true, apart := false, narrowed := true }
def FnExactClearCombUptoSaid : Prop := fnExactClearCombUptoRow.holds Try.pinned (OpenSpec.upto fnExactClearCombSpec)

/-- 'laws.FnCombCut', WHERE WHAT IT READS IS OF BULK AT MOST 1048576: true; the input reads as it did. -/
def fnCombCutUptoRow : OpenClaim := { program := "ytfplecbacgcjgaa", sum := "60615caa2f9b0f55bdb89cdefd115cad055a1391ddcba7dd47498ee31b38430b", func := "loop.example/g03228/laws.FnCombCut", spec := "fnCombCut", unfollowed := true, recurses := true, apart := false, narrowed := true }
def FnCombCutUptoSaid : Prop := fnCombCutUptoRow.holds Try.pinned (OpenSpec.upto fnCombCutSpec)

/-- 'laws.FnExactSpreadComb', WHERE WHAT IT READS IS OF BULK AT MOST 1048576: true; the input reads as it did. -/
def fnExactSpreadCombUptoRow : OpenClaim := { program := "ytfplecbacgcjgaa", sum := "60615caa2f9b0f55bdb89cdefd115cad055a1391ddcba7dd47498ee31b38430b", func := "loop.example/g03228/laws.FnExactSpreadComb", spec := "fnExactSpreadComb", apart := false, narrowed := true }
def FnExactSpreadCombUptoSaid : Prop := fnExactSpreadCombUptoRow.holds Try.pinned (OpenSpec.upto fnExactSpreadCombSpec)

/-- 'laws.FnSpread', WHERE WHAT IT READS IS OF BULK AT MOST 1048576: true; the input reads as it did. -/
def fnSpreadUptoRow : OpenClaim := { program := "ytfplecbacgcjgaa", sum := "60615caa2f9b0f55bdb89cdefd115cad055a1391ddcba7dd47498ee31b38430b", func := "loop.example/g03228/laws.FnSpread", spec := "fnSpread", apart := false, narrowed := true }
def FnSpreadUptoSaid : Prop := fnSpreadUptoRow.holds Try.pinned (OpenSpec.upto fnSpreadSpec)

/-- 'laws.FnExactRunComb', WHERE WHAT IT READS IS OF BULK AT MOST 1048576: true; the input reads as it did. -/
def fnExactRunCombUptoRow : OpenClaim := { program := "ytfplecbacgcjgaa", sum := "60615caa2f9b0f55bdb89cdefd115cad055a1391ddcba7dd47498ee31b38430b", func := "loop.example/g03228/laws.FnExactRunComb", spec := "fnExactRunComb", unfollowed := true, recurses := true, apart := false, narrowed := true }
def FnExactRunCombUptoSaid : Prop := fnExactRunCombUptoRow.holds Try.pinned (OpenSpec.upto fnExactRunCombSpec)

end Rows
end Go.Proofs.Ytfplecbacgcjgaa
