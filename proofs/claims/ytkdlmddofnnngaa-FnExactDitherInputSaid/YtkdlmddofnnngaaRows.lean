/-
  No cell of these rows narrows 'for every input' (looked for: loops, veiled, ifaces, maps, wideKeys, modest, calm, conditions, laid).
  DERIVED. THE GIVEN ROWS OF THIS SEAT. 12 by the template 'for every input the law returns true; each argument reads behind the call as it read before'; 0 by the template 'total and deterministic' (their statements: YtkdlmddofnnngaaTotals.lean).
  GIVEN WITH THE SEED: the statements are not yours to turn. If you find one false, say at which input.
  Laid BY PROGRAM, IN A SANDBOX (cutbox-rows.mjs): the forced cells as the released guide's own fill.sh prints them over the translation 5479296c1e30460b… (all of the seat's roots in one cut). By AI agents, Wed Nov 11 2026. No macro, syntax, notation, axiom, sorry.
-/
import Derived.Test.YtkdlmddofnnngaaChecked
import GoSem.Claim
import GoSem.ClaimJoined
import GoSem.ClaimMapViews
import Derived.JoinedTies
import Derived.KernelRfl
namespace Go.Proofs.Ytkdlmddofnnngaa
/- THE CELL 'sum', in the pinned program and in every row, IS THE sha256 OF THE DUMP (.gsa) THAT YtkdlmddofnnngaaProg.lean LOADS. Nothing in Lean hashes anything: it is a label: what it is worth is what the hold of that sum in a sandbox is worth. -/
noncomputable def Try.pinned : Pinned := { name := "ytkdlmddofnnngaa", sum := "5479296c1e30460b8f77f7b7c4564d42fbfa93d4a0294b170fda8c7ba9926e12", checked := Try.checked }
namespace Rows
def none {H : Type} : Left H := { results := [], args := [] }

/-- 'laws.FnExactIsAccumulator': WHATEVER THE INPUT: true; the input reads as it did. -/
def fnExactIsAccumulatorSpec : ChangeSpec := { name := "fnExactIsAccumulator", fn := fun _ => fun
  | [d] => { results := [.lit (.bool true)], args := [d] }
  | _ => none }
def fnExactIsAccumulatorRow : OpenClaim := { program := "ytkdlmddofnnngaa", sum := "5479296c1e30460b8f77f7b7c4564d42fbfa93d4a0294b170fda8c7ba9926e12", func := "loop.example/g03228/laws.FnExactIsAccumulator", spec := "fnExactIsAccumulator", apart := false }
def FnExactIsAccumulatorSaid : Prop := fnExactIsAccumulatorRow.holds Try.pinned (OpenSpec.ofChange fnExactIsAccumulatorSpec)

/-- ITS FALSE NEIGHBOUR: 'it returns false'. Refute it at one input. -/
def fnExactIsAccumulatorWrong : ChangeSpec := { name := "fnExactIsAccumulator", fn := fun _ => fun
  | [d] => { results := [.lit (.bool false)], args := [d] }
  | _ => none }
def FnExactIsAccumulatorWrongFalsely : Prop := fnExactIsAccumulatorRow.holds Try.pinned (OpenSpec.ofChange fnExactIsAccumulatorWrong)

/-- 'laws.FnExactIsComb': WHATEVER THE INPUT: true; the input reads as it did. -/
def fnExactIsCombSpec : ChangeSpec := { name := "fnExactIsComb", fn := fun _ => fun
  | [d] => { results := [.lit (.bool true)], args := [d] }
  | _ => none }
def fnExactIsCombRow : OpenClaim := { program := "ytkdlmddofnnngaa", sum := "5479296c1e30460b8f77f7b7c4564d42fbfa93d4a0294b170fda8c7ba9926e12", func := "loop.example/g03228/laws.FnExactIsComb", spec := "fnExactIsComb", apart := false }
def FnExactIsCombSaid : Prop := fnExactIsCombRow.holds Try.pinned (OpenSpec.ofChange fnExactIsCombSpec)

/-- ITS FALSE NEIGHBOUR: 'it returns false'. Refute it at one input. -/
def fnExactIsCombWrong : ChangeSpec := { name := "fnExactIsComb", fn := fun _ => fun
  | [d] => { results := [.lit (.bool false)], args := [d] }
  | _ => none }
def FnExactIsCombWrongFalsely : Prop := fnExactIsCombRow.holds Try.pinned (OpenSpec.ofChange fnExactIsCombWrong)

/-- 'laws.FnExactWrapWord': WHATEVER THE INPUT: true; the input reads as it did. -/
def fnExactWrapWordSpec : ChangeSpec := { name := "fnExactWrapWord", fn := fun _ => fun
  | [d1, d2] => { results := [.lit (.bool true)], args := [d1, d2] }
  | _ => none }
def fnExactWrapWordRow : OpenClaim := { program := "ytkdlmddofnnngaa", sum := "5479296c1e30460b8f77f7b7c4564d42fbfa93d4a0294b170fda8c7ba9926e12", func := "loop.example/g03228/laws.FnExactWrapWord", spec := "fnExactWrapWord", apart := false }
def FnExactWrapWordSaid : Prop := fnExactWrapWordRow.holds Try.pinned (OpenSpec.ofChange fnExactWrapWordSpec)

/-- ITS FALSE NEIGHBOUR: 'it returns false'. Refute it at one input. -/
def fnExactWrapWordWrong : ChangeSpec := { name := "fnExactWrapWord", fn := fun _ => fun
  | [d1, d2] => { results := [.lit (.bool false)], args := [d1, d2] }
  | _ => none }
def FnExactWrapWordWrongFalsely : Prop := fnExactWrapWordRow.holds Try.pinned (OpenSpec.ofChange fnExactWrapWordWrong)

/-- 'laws.FnExactGrowthOf': WHATEVER THE INPUT: true; the input reads as it did. -/
def fnExactGrowthOfSpec : ChangeSpec := { name := "fnExactGrowthOf", fn := fun _ => fun
  | [d1, d2] => { results := [.lit (.bool true)], args := [d1, d2] }
  | _ => none }
def fnExactGrowthOfRow : OpenClaim := { program := "ytkdlmddofnnngaa", sum := "5479296c1e30460b8f77f7b7c4564d42fbfa93d4a0294b170fda8c7ba9926e12", func := "loop.example/g03228/laws.FnExactGrowthOf", spec := "fnExactGrowthOf", apart := false }
def FnExactGrowthOfSaid : Prop := fnExactGrowthOfRow.holds Try.pinned (OpenSpec.ofChange fnExactGrowthOfSpec)

/-- ITS FALSE NEIGHBOUR: 'it returns false'. Refute it at one input. -/
def fnExactGrowthOfWrong : ChangeSpec := { name := "fnExactGrowthOf", fn := fun _ => fun
  | [d1, d2] => { results := [.lit (.bool false)], args := [d1, d2] }
  | _ => none }
def FnExactGrowthOfWrongFalsely : Prop := fnExactGrowthOfRow.holds Try.pinned (OpenSpec.ofChange fnExactGrowthOfWrong)

/-- 'laws.FnExactIsRests': WHATEVER THE INPUT: true; the input reads as it did. -/
def fnExactIsRestsSpec : ChangeSpec := { name := "fnExactIsRests", fn := fun _ => fun
  | [d1, d2] => { results := [.lit (.bool true)], args := [d1, d2] }
  | _ => none }
def fnExactIsRestsRow : OpenClaim := { program := "ytkdlmddofnnngaa", sum := "5479296c1e30460b8f77f7b7c4564d42fbfa93d4a0294b170fda8c7ba9926e12", func := "loop.example/g03228/laws.FnExactIsRests", spec := "fnExactIsRests", unfollowed := true, recurses := true, apart := false }
def FnExactIsRestsSaid : Prop := fnExactIsRestsRow.holds Try.pinned (OpenSpec.ofChange fnExactIsRestsSpec)

/-- ITS FALSE NEIGHBOUR: 'it returns false'. Refute it at one input. -/
def fnExactIsRestsWrong : ChangeSpec := { name := "fnExactIsRests", fn := fun _ => fun
  | [d1, d2] => { results := [.lit (.bool false)], args := [d1, d2] }
  | _ => none }
def FnExactIsRestsWrongFalsely : Prop := fnExactIsRestsRow.holds Try.pinned (OpenSpec.ofChange fnExactIsRestsWrong)

/-- 'laws.FnExactPowerOf': WHATEVER THE INPUT: true; the input reads as it did. -/
def fnExactPowerOfSpec : ChangeSpec := { name := "fnExactPowerOf", fn := fun _ => fun
  | [d] => { results := [.lit (.bool true)], args := [d] }
  | _ => none }
def fnExactPowerOfRow : OpenClaim := { program := "ytkdlmddofnnngaa", sum := "5479296c1e30460b8f77f7b7c4564d42fbfa93d4a0294b170fda8c7ba9926e12", func := "loop.example/g03228/laws.FnExactPowerOf", spec := "fnExactPowerOf", apart := false }
def FnExactPowerOfSaid : Prop := fnExactPowerOfRow.holds Try.pinned (OpenSpec.ofChange fnExactPowerOfSpec)

/-- ITS FALSE NEIGHBOUR: 'it returns false'. Refute it at one input. -/
def fnExactPowerOfWrong : ChangeSpec := { name := "fnExactPowerOf", fn := fun _ => fun
  | [d] => { results := [.lit (.bool false)], args := [d] }
  | _ => none }
def FnExactPowerOfWrongFalsely : Prop := fnExactPowerOfRow.holds Try.pinned (OpenSpec.ofChange fnExactPowerOfWrong)

/-- 'laws.FnExactDitherInput': WHATEVER THE INPUT: true; the input reads as it did. -/
def fnExactDitherInputSpec : ChangeSpec := { name := "fnExactDitherInput", fn := fun _ => fun
  | [d1, d2, d3] => { results := [.lit (.bool true)], args := [d1, d2, d3] }
  | _ => none }
def fnExactDitherInputRow : OpenClaim := { program := "ytkdlmddofnnngaa", sum := "5479296c1e30460b8f77f7b7c4564d42fbfa93d4a0294b170fda8c7ba9926e12", func := "loop.example/g03228/laws.FnExactDitherInput", spec := "fnExactDitherInput", apart := false }
def FnExactDitherInputSaid : Prop := fnExactDitherInputRow.holds Try.pinned (OpenSpec.ofChange fnExactDitherInputSpec)

/-- ITS FALSE NEIGHBOUR: 'it returns false'. Refute it at one input. -/
def fnExactDitherInputWrong : ChangeSpec := { name := "fnExactDitherInput", fn := fun _ => fun
  | [d1, d2, d3] => { results := [.lit (.bool false)], args := [d1, d2, d3] }
  | _ => none }
def FnExactDitherInputWrongFalsely : Prop := fnExactDitherInputRow.holds Try.pinned (OpenSpec.ofChange fnExactDitherInputWrong)

/-- 'laws.FnExactLevelsOf': WHATEVER THE INPUT: true; the input reads as it did. -/
def fnExactLevelsOfSpec : ChangeSpec := { name := "fnExactLevelsOf", fn := fun _ => fun
  | [d] => { results := [.lit (.bool true)], args := [d] }
  | _ => none }
def fnExactLevelsOfRow : OpenClaim := { program := "ytkdlmddofnnngaa", sum := "5479296c1e30460b8f77f7b7c4564d42fbfa93d4a0294b170fda8c7ba9926e12", func := "loop.example/g03228/laws.FnExactLevelsOf", spec := "fnExactLevelsOf", apart := false }
def FnExactLevelsOfSaid : Prop := fnExactLevelsOfRow.holds Try.pinned (OpenSpec.ofChange fnExactLevelsOfSpec)

/-- ITS FALSE NEIGHBOUR: 'it returns false'. Refute it at one input. -/
def fnExactLevelsOfWrong : ChangeSpec := { name := "fnExactLevelsOf", fn := fun _ => fun
  | [d] => { results := [.lit (.bool false)], args := [d] }
  | _ => none }
def FnExactLevelsOfWrongFalsely : Prop := fnExactLevelsOfRow.holds Try.pinned (OpenSpec.ofChange fnExactLevelsOfWrong)

/-- 'laws.FnExactReversedOf': WHATEVER THE INPUT: true; the input reads as it did. -/
def fnExactReversedOfSpec : ChangeSpec := { name := "fnExactReversedOf", fn := fun _ => fun
  | [d] => { results := [.lit (.bool true)], args := [d] }
  | _ => none }
def fnExactReversedOfRow : OpenClaim := { program := "ytkdlmddofnnngaa", sum := "5479296c1e30460b8f77f7b7c4564d42fbfa93d4a0294b170fda8c7ba9926e12", func := "loop.example/g03228/laws.FnExactReversedOf", spec := "fnExactReversedOf", apart := false }
def FnExactReversedOfSaid : Prop := fnExactReversedOfRow.holds Try.pinned (OpenSpec.ofChange fnExactReversedOfSpec)

/-- ITS FALSE NEIGHBOUR: 'it returns false'. Refute it at one input. -/
def fnExactReversedOfWrong : ChangeSpec := { name := "fnExactReversedOf", fn := fun _ => fun
  | [d] => { results := [.lit (.bool false)], args := [d] }
  | _ => none }
def FnExactReversedOfWrongFalsely : Prop := fnExactReversedOfRow.holds Try.pinned (OpenSpec.ofChange fnExactReversedOfWrong)

/-- 'laws.FnExactNewComb': WHATEVER THE INPUT: true; the input reads as it did. -/
def fnExactNewCombSpec : ChangeSpec := { name := "fnExactNewComb", fn := fun _ => fun
  | [d] => { results := [.lit (.bool true)], args := [d] }
  | _ => none }
def fnExactNewCombRow : OpenClaim := { program := "ytkdlmddofnnngaa", sum := "5479296c1e30460b8f77f7b7c4564d42fbfa93d4a0294b170fda8c7ba9926e12", func := "loop.example/g03228/laws.FnExactNewComb", spec := "fnExactNewComb", apart := false }
def FnExactNewCombSaid : Prop := fnExactNewCombRow.holds Try.pinned (OpenSpec.ofChange fnExactNewCombSpec)

/-- ITS FALSE NEIGHBOUR: 'it returns false'. Refute it at one input. -/
def fnExactNewCombWrong : ChangeSpec := { name := "fnExactNewComb", fn := fun _ => fun
  | [d] => { results := [.lit (.bool false)], args := [d] }
  | _ => none }
def FnExactNewCombWrongFalsely : Prop := fnExactNewCombRow.holds Try.pinned (OpenSpec.ofChange fnExactNewCombWrong)

/-- 'laws.FnExactIsBalanced': WHATEVER THE INPUT: true; the input reads as it did. -/
def fnExactIsBalancedSpec : ChangeSpec := { name := "fnExactIsBalanced", fn := fun _ => fun
  | [d] => { results := [.lit (.bool true)], args := [d] }
  | _ => none }
def fnExactIsBalancedRow : OpenClaim := { program := "ytkdlmddofnnngaa", sum := "5479296c1e30460b8f77f7b7c4564d42fbfa93d4a0294b170fda8c7ba9926e12", func := "loop.example/g03228/laws.FnExactIsBalanced", spec := "fnExactIsBalanced", apart := false }
def FnExactIsBalancedSaid : Prop := fnExactIsBalancedRow.holds Try.pinned (OpenSpec.ofChange fnExactIsBalancedSpec)

/-- ITS FALSE NEIGHBOUR: 'it returns false'. Refute it at one input. -/
def fnExactIsBalancedWrong : ChangeSpec := { name := "fnExactIsBalanced", fn := fun _ => fun
  | [d] => { results := [.lit (.bool false)], args := [d] }
  | _ => none }
def FnExactIsBalancedWrongFalsely : Prop := fnExactIsBalancedRow.holds Try.pinned (OpenSpec.ofChange fnExactIsBalancedWrong)

/-- 'laws.FnExactBoxCoefs': WHATEVER THE INPUT: true; the input reads as it did. -/
def fnExactBoxCoefsSpec : ChangeSpec := { name := "fnExactBoxCoefs", fn := fun _ => fun
  | [d] => { results := [.lit (.bool true)], args := [d] }
  | _ => none }
def fnExactBoxCoefsRow : OpenClaim := { program := "ytkdlmddofnnngaa", sum := "5479296c1e30460b8f77f7b7c4564d42fbfa93d4a0294b170fda8c7ba9926e12", func := "loop.example/g03228/laws.FnExactBoxCoefs", spec := "fnExactBoxCoefs", apart := false }
def FnExactBoxCoefsSaid : Prop := fnExactBoxCoefsRow.holds Try.pinned (OpenSpec.ofChange fnExactBoxCoefsSpec)

/-- ITS FALSE NEIGHBOUR: 'it returns false'. Refute it at one input. -/
def fnExactBoxCoefsWrong : ChangeSpec := { name := "fnExactBoxCoefs", fn := fun _ => fun
  | [d] => { results := [.lit (.bool false)], args := [d] }
  | _ => none }
def FnExactBoxCoefsWrongFalsely : Prop := fnExactBoxCoefsRow.holds Try.pinned (OpenSpec.ofChange fnExactBoxCoefsWrong)

/- THE SECOND FORM. 'bulk': how many values and letters a reading holds, each counted each time it is reached (what is shared counts as often as it is met; a slice's spare places count too). A statement '..UptoSaid' is the law's where the arguments, and the package variables that the reading takes, are together of bulk at most 1048576: NARROWER than '..Said'. Prove '..Said' where nothing that the law and all that it calls make is longer than what came in: it says more and counts as full. Else prove '..UptoSaid'. A law counts once. -/
mutual
def uptoBulk {H : Type} : DataW H → Nat
  | .lit (.string bytes) => bytes.length + 1
  | .lit _ => 1
  | .nil => 1
  | .ptr d => uptoBulk d + 1
  | .slice elems spare => uptoBulkAll elems + uptoBulkAll spare + 1
  | .agg parts => uptoBulkAll parts + 1
  | .iface _ d => uptoBulk d + 1
  | .map entries => uptoBulkEntries entries + 1
  | .held _ => 1
def uptoBulkAll {H : Type} : List (DataW H) → Nat
  | [] => 0
  | d :: r => uptoBulk d + uptoBulkAll r
def uptoBulkEntries {H : Type} : List (Lit × DataW H) → Nat
  | [] => 0
  | x :: r => uptoBulkEntry x + uptoBulkEntries r
def uptoBulkEntry {H : Type} : Lit × DataW H → Nat
  | (.string bytes, d) => bytes.length + uptoBulk d + 1
  | (_, d) => uptoBulk d + 1
 end
def uptoSmall : (H : Type) → List (DataW H) → Bool := fun _ ds => decide (uptoBulkAll ds ≤ 1048576)
def OpenSpec.upto (s : _root_.Go.ChangeSpec) : _root_.Go.OpenSpec := { _root_.Go.OpenSpec.ofChange s with cond := some uptoSmall }

/-- 'laws.FnExactIsAccumulator', WHERE WHAT IT READS IS OF BULK AT MOST 1048576: true; the input reads as it did. -/
def fnExactIsAccumulatorUptoRow : OpenClaim := { program := "ytkdlmddofnnngaa", sum := "5479296c1e30460b8f77f7b7c4564d42fbfa93d4a0294b170fda8c7ba9926e12", func := "loop.example/g03228/laws.FnExactIsAccumulator", spec := "fnExactIsAccumulator", apart := false, narrowed := true }
def FnExactIsAccumulatorUptoSaid : Prop := fnExactIsAccumulatorUptoRow.holds Try.pinned (OpenSpec.upto fnExactIsAccumulatorSpec)

/-- 'laws.FnExactIsComb', WHERE WHAT IT READS IS OF BULK AT MOST 1048576: true; the input reads as it did. -/
def fnExactIsCombUptoRow : OpenClaim := { program := "ytkdlmddofnnngaa", sum := "5479296c1e30460b8f77f7b7c4564d42fbfa93d4a0294b170fda8c7ba9926e12", func := "loop.example/g03228/laws.FnExactIsComb", spec := "fnExactIsComb", apart := false, narrowed := true }
def FnExactIsCombUptoSaid : Prop := fnExactIsCombUptoRow.holds Try.pinned (OpenSpec.upto fnExactIsCombSpec)

/-- 'laws.FnExactWrapWord', WHERE WHAT IT READS IS OF BULK AT MOST 1048576: true; the input reads as it did. -/
def fnExactWrapWordUptoRow : OpenClaim := { program := "ytkdlmddofnnngaa", sum := "5479296c1e30460b8f77f7b7c4564d42fbfa93d4a0294b170fda8c7ba9926e12", func := "loop.example/g03228/laws.FnExactWrapWord", spec := "fnExactWrapWord", apart := false, narrowed := true }
def FnExactWrapWordUptoSaid : Prop := fnExactWrapWordUptoRow.holds Try.pinned (OpenSpec.upto fnExactWrapWordSpec)

/-- 'laws.FnExactGrowthOf', WHERE WHAT IT READS IS OF BULK AT MOST 1048576: true; the input reads as it did. -/
def fnExactGrowthOfUptoRow : OpenClaim := { program := "ytkdlmddofnnngaa", sum := "5479296c1e30460b8f77f7b7c4564d42fbfa93d4a0294b170fda8c7ba9926e12", func := "loop.example/g03228/laws.FnExactGrowthOf", spec := "fnExactGrowthOf", apart := false, narrowed := true }
def FnExactGrowthOfUptoSaid : Prop := fnExactGrowthOfUptoRow.holds Try.pinned (OpenSpec.upto fnExactGrowthOfSpec)

/-- 'laws.FnExactIsRests', WHERE WHAT IT READS IS OF BULK AT MOST 1048576: true; the input reads as it did. -/
def fnExactIsRestsUptoRow : OpenClaim := { program := "ytkdlmddofnnngaa", sum := "5479296c1e30460b8f77f7b7c4564d42fbfa93d4a0294b170fda8c7ba9926e12", func := "loop.example/g03228/laws.FnExactIsRests", spec := "fnExactIsRests", unfollowed := true, recurses := true, apart := false, narrowed := true }
def FnExactIsRestsUptoSaid : Prop := fnExactIsRestsUptoRow.holds Try.pinned (OpenSpec.upto fnExactIsRestsSpec)

/-- 'laws.FnExactPowerOf', WHERE WHAT IT READS IS OF BULK AT MOST 1048576: true; the input reads as it did. -/
def fnExactPowerOfUptoRow : OpenClaim := { program := "ytkdlmddofnnngaa", sum := "5479296c1e30460b8f77f7b7c4564d42fbfa93d4a0294b170fda8c7ba9926e12", func := "loop.example/g03228/laws.FnExactPowerOf", spec := "fnExactPowerOf", apart := false, narrowed := true }
def FnExactPowerOfUptoSaid : Prop := fnExactPowerOfUptoRow.holds Try.pinned (OpenSpec.upto fnExactPowerOfSpec)

/-- 'laws.FnExactDitherInput', WHERE WHAT IT READS IS OF BULK AT MOST 1048576: true; the input reads as it did. -/
def fnExactDitherInputUptoRow : OpenClaim := { program := "ytkdlmddofnnngaa", sum := "5479296c1e30460b8f77f7b7c4564d42fbfa93d4a0294b170fda8c7ba9926e12", func := "loop.example/g03228/laws.FnExactDitherInput", spec := "fnExactDitherInput", apart := false, narrowed := true }
def FnExactDitherInputUptoSaid : Prop := fnExactDitherInputUptoRow.holds Try.pinned (OpenSpec.upto fnExactDitherInputSpec)

/-- 'laws.FnExactLevelsOf', WHERE WHAT IT READS IS OF BULK AT MOST 1048576: true; the input reads as it did. -/
def fnExactLevelsOfUptoRow : OpenClaim := { program := "ytkdlmddofnnngaa", sum := "5479296c1e30460b8f77f7b7c4564d42fbfa93d4a0294b170fda8c7ba9926e12", func := "loop.example/g03228/laws.FnExactLevelsOf", spec := "fnExactLevelsOf", apart := false, narrowed := true }
def FnExactLevelsOfUptoSaid : Prop := fnExactLevelsOfUptoRow.holds Try.pinned (OpenSpec.upto fnExactLevelsOfSpec)

/-- 'laws.FnExactReversedOf', WHERE WHAT IT READS IS OF BULK AT MOST 1048576: true; the input reads as it did. -/
def fnExactReversedOfUptoRow : OpenClaim := { program := "ytkdlmddofnnngaa", sum := "5479296c1e30460b8f77f7b7c4564d42fbfa93d4a0294b170fda8c7ba9926e12", func := "loop.example/g03228/laws.FnExactReversedOf", spec := "fnExactReversedOf", apart := false, narrowed := true }
def FnExactReversedOfUptoSaid : Prop := fnExactReversedOfUptoRow.holds Try.pinned (OpenSpec.upto fnExactReversedOfSpec)

/-- 'laws.FnExactNewComb', WHERE WHAT IT READS IS OF BULK AT MOST 1048576: true; the input reads as it did. -/
def fnExactNewCombUptoRow : OpenClaim := { program := "ytkdlmddofnnngaa", sum := "5479296c1e30460b8f77f7b7c4564d42fbfa93d4a0294b170fda8c7ba9926e12", func := "loop.example/g03228/laws.FnExactNewComb", spec := "fnExactNewComb", apart := false, narrowed := true }
def FnExactNewCombUptoSaid : Prop := fnExactNewCombUptoRow.holds Try.pinned (OpenSpec.upto fnExactNewCombSpec)

/-- 'laws.FnExactIsBalanced', WHERE WHAT IT READS IS OF BULK AT MOST 1048576: true; the input reads as it did. -/
def fnExactIsBalancedUptoRow : OpenClaim := { program := "ytkdlmddofnnngaa", sum := "5479296c1e30460b8f77f7b7c4564d42fbfa93d4a0294b170fda8c7ba9926e12", func := "loop.example/g03228/laws.FnExactIsBalanced", spec := "fnExactIsBalanced", apart := false, narrowed := true }
def FnExactIsBalancedUptoSaid : Prop := fnExactIsBalancedUptoRow.holds Try.pinned (OpenSpec.upto fnExactIsBalancedSpec)

/-- 'laws.FnExactBoxCoefs', WHERE WHAT IT READS IS OF BULK AT MOST 1048576: true; the input reads as it did. -/
def fnExactBoxCoefsUptoRow : OpenClaim := { program := "ytkdlmddofnnngaa", sum := "5479296c1e30460b8f77f7b7c4564d42fbfa93d4a0294b170fda8c7ba9926e12", func := "loop.example/g03228/laws.FnExactBoxCoefs", spec := "fnExactBoxCoefs", apart := false, narrowed := true }
def FnExactBoxCoefsUptoSaid : Prop := fnExactBoxCoefsUptoRow.holds Try.pinned (OpenSpec.upto fnExactBoxCoefsSpec)

end Rows
end Go.Proofs.Ytkdlmddofnnngaa
