/-
  No cell of these rows narrows 'for every input' (looked for: loops, veiled, ifaces, maps, wideKeys, modest, calm, conditions, laid).
  DERIVED. THE GIVEN ROWS OF THIS SEAT. 9 by the template 'for every input the law returns true; each argument reads behind the call as it read before'; 0 by the template 'total and deterministic' (their statements: YthpjpnilmpihaaaTotals.lean).
  GIVEN WITH THE SEED: the statements are not yours to turn. If you find one false, say at which input.
  Laid BY PROGRAM, IN A SANDBOX (cutbox-rows.mjs): the forced cells as the released guide's own fill.sh prints them over the translation 82d60fed657d9ee3… (all of the seat's roots in one cut). By AI agents, Wed Nov 11 2026. No macro, syntax, notation, axiom, sorry.
-/
import Derived.Test.YthpjpnilmpihaaaChecked
import GoSem.Claim
import GoSem.ClaimJoined
import GoSem.ClaimMapViews
import Derived.JoinedTies
import Derived.KernelRfl
namespace Go.Proofs.Ythpjpnilmpihaaa
/- THE CELL 'sum', in the pinned program and in every row, IS THE sha256 OF THE DUMP (.gsa) THAT YthpjpnilmpihaaaProg.lean LOADS. Nothing in Lean hashes anything: it is a label: what it is worth is what the hold of that sum in a sandbox is worth. -/
noncomputable def Try.pinned : Pinned := { name := "ythpjpnilmpihaaa", sum := "82d60fed657d9ee35c7ee0175e413e1d28e7473e4a1b2f9d66518f93fa41fa53", checked := Try.checked }
namespace Rows
def none {H : Type} : Left H := { results := [], args := [] }

/-- 'laws.FnMechanical': WHATEVER THE INPUT: true; the input reads as it did. -/
def fnMechanicalSpec : ChangeSpec := { name := "fnMechanical", fn := fun _ => fun
  | [d] => { results := [.lit (.bool true)], args := [d] }
  | _ => none }
def fnMechanicalRow : OpenClaim := { program := "ythpjpnilmpihaaa", sum := "82d60fed657d9ee35c7ee0175e413e1d28e7473e4a1b2f9d66518f93fa41fa53", func := "loop.example/g03228/laws.FnMechanical", spec := "fnMechanical", apart := false }
def FnMechanicalSaid : Prop := fnMechanicalRow.holds Try.pinned (OpenSpec.ofChange fnMechanicalSpec)

/-- ITS FALSE NEIGHBOUR: 'it returns false'. Refute it at one input. -/
def fnMechanicalWrong : ChangeSpec := { name := "fnMechanical", fn := fun _ => fun
  | [d] => { results := [.lit (.bool false)], args := [d] }
  | _ => none }
def FnMechanicalWrongFalsely : Prop := fnMechanicalRow.holds Try.pinned (OpenSpec.ofChange fnMechanicalWrong)

/-- 'laws.FnExactFactorsOf': WHATEVER THE INPUT: true; the input reads as it did. -/
def fnExactFactorsOfSpec : ChangeSpec := { name := "fnExactFactorsOf", fn := fun _ => fun
  | [d1, d2] => { results := [.lit (.bool true)], args := [d1, d2] }
  | _ => none }
def fnExactFactorsOfRow : OpenClaim := { program := "ythpjpnilmpihaaa", sum := "82d60fed657d9ee35c7ee0175e413e1d28e7473e4a1b2f9d66518f93fa41fa53", func := "loop.example/g03228/laws.FnExactFactorsOf", spec := "fnExactFactorsOf", apart := false }
def FnExactFactorsOfSaid : Prop := fnExactFactorsOfRow.holds Try.pinned (OpenSpec.ofChange fnExactFactorsOfSpec)

/-- ITS FALSE NEIGHBOUR: 'it returns false'. Refute it at one input. -/
def fnExactFactorsOfWrong : ChangeSpec := { name := "fnExactFactorsOf", fn := fun _ => fun
  | [d1, d2] => { results := [.lit (.bool false)], args := [d1, d2] }
  | _ => none }
def FnExactFactorsOfWrongFalsely : Prop := fnExactFactorsOfRow.holds Try.pinned (OpenSpec.ofChange fnExactFactorsOfWrong)

/-- 'laws.FnExactSlopeOf': WHATEVER THE INPUT: true; the input reads as it did. -/
def fnExactSlopeOfSpec : ChangeSpec := { name := "fnExactSlopeOf", fn := fun _ => fun
  | [d] => { results := [.lit (.bool true)], args := [d] }
  | _ => none }
def fnExactSlopeOfRow : OpenClaim := { program := "ythpjpnilmpihaaa", sum := "82d60fed657d9ee35c7ee0175e413e1d28e7473e4a1b2f9d66518f93fa41fa53", func := "loop.example/g03228/laws.FnExactSlopeOf", spec := "fnExactSlopeOf", apart := false }
def FnExactSlopeOfSaid : Prop := fnExactSlopeOfRow.holds Try.pinned (OpenSpec.ofChange fnExactSlopeOfSpec)

/-- ITS FALSE NEIGHBOUR: 'it returns false'. Refute it at one input. -/
def fnExactSlopeOfWrong : ChangeSpec := { name := "fnExactSlopeOf", fn := fun _ => fun
  | [d] => { results := [.lit (.bool false)], args := [d] }
  | _ => none }
def FnExactSlopeOfWrongFalsely : Prop := fnExactSlopeOfRow.holds Try.pinned (OpenSpec.ofChange fnExactSlopeOfWrong)

/-- 'laws.FnParities': WHATEVER THE INPUT: true; the input reads as it did. -/
def fnParitiesSpec : ChangeSpec := { name := "fnParities", fn := fun _ => fun
  | [d] => { results := [.lit (.bool true)], args := [d] }
  | _ => none }
def fnParitiesRow : OpenClaim := { program := "ythpjpnilmpihaaa", sum := "82d60fed657d9ee35c7ee0175e413e1d28e7473e4a1b2f9d66518f93fa41fa53", func := "loop.example/g03228/laws.FnParities", spec := "fnParities", apart := false }
def FnParitiesSaid : Prop := fnParitiesRow.holds Try.pinned (OpenSpec.ofChange fnParitiesSpec)

/-- ITS FALSE NEIGHBOUR: 'it returns false'. Refute it at one input. -/
def fnParitiesWrong : ChangeSpec := { name := "fnParities", fn := fun _ => fun
  | [d] => { results := [.lit (.bool false)], args := [d] }
  | _ => none }
def FnParitiesWrongFalsely : Prop := fnParitiesRow.holds Try.pinned (OpenSpec.ofChange fnParitiesWrong)

/-- 'laws.FnChristoffel': WHATEVER THE INPUT: true; the input reads as it did. -/
def fnChristoffelSpec : ChangeSpec := { name := "fnChristoffel", fn := fun _ => fun
  | [d] => { results := [.lit (.bool true)], args := [d] }
  | _ => none }
def fnChristoffelRow : OpenClaim := { program := "ythpjpnilmpihaaa", sum := "82d60fed657d9ee35c7ee0175e413e1d28e7473e4a1b2f9d66518f93fa41fa53", func := "loop.example/g03228/laws.FnChristoffel", spec := "fnChristoffel", apart := false }
def FnChristoffelSaid : Prop := fnChristoffelRow.holds Try.pinned (OpenSpec.ofChange fnChristoffelSpec)

/-- ITS FALSE NEIGHBOUR: 'it returns false'. Refute it at one input. -/
def fnChristoffelWrong : ChangeSpec := { name := "fnChristoffel", fn := fun _ => fun
  | [d] => { results := [.lit (.bool false)], args := [d] }
  | _ => none }
def FnChristoffelWrongFalsely : Prop := fnChristoffelRow.holds Try.pinned (OpenSpec.ofChange fnChristoffelWrong)

/-- 'laws.FnWords': WHATEVER THE INPUT: true; the input reads as it did. -/
def fnWordsSpec : ChangeSpec := { name := "fnWords", fn := fun _ => fun
  | [d] => { results := [.lit (.bool true)], args := [d] }
  | _ => none }
def fnWordsRow : OpenClaim := { program := "ythpjpnilmpihaaa", sum := "82d60fed657d9ee35c7ee0175e413e1d28e7473e4a1b2f9d66518f93fa41fa53", func := "loop.example/g03228/laws.FnWords", spec := "fnWords", apart := false }
def FnWordsSaid : Prop := fnWordsRow.holds Try.pinned (OpenSpec.ofChange fnWordsSpec)

/-- ITS FALSE NEIGHBOUR: 'it returns false'. Refute it at one input. -/
def fnWordsWrong : ChangeSpec := { name := "fnWords", fn := fun _ => fun
  | [d] => { results := [.lit (.bool false)], args := [d] }
  | _ => none }
def FnWordsWrongFalsely : Prop := fnWordsRow.holds Try.pinned (OpenSpec.ofChange fnWordsWrong)

/-- 'laws.FnRotated': WHATEVER THE INPUT: true; the input reads as it did. -/
def fnRotatedSpec : ChangeSpec := { name := "fnRotated", fn := fun _ => fun
  | [d] => { results := [.lit (.bool true)], args := [d] }
  | _ => none }
def fnRotatedRow : OpenClaim := { program := "ythpjpnilmpihaaa", sum := "82d60fed657d9ee35c7ee0175e413e1d28e7473e4a1b2f9d66518f93fa41fa53", func := "loop.example/g03228/laws.FnRotated", spec := "fnRotated", apart := false }
def FnRotatedSaid : Prop := fnRotatedRow.holds Try.pinned (OpenSpec.ofChange fnRotatedSpec)

/-- ITS FALSE NEIGHBOUR: 'it returns false'. Refute it at one input. -/
def fnRotatedWrong : ChangeSpec := { name := "fnRotated", fn := fun _ => fun
  | [d] => { results := [.lit (.bool false)], args := [d] }
  | _ => none }
def FnRotatedWrongFalsely : Prop := fnRotatedRow.holds Try.pinned (OpenSpec.ofChange fnRotatedWrong)

/-- 'laws.FnBalanced': WHATEVER THE INPUT: true; the input reads as it did. -/
def fnBalancedSpec : ChangeSpec := { name := "fnBalanced", fn := fun _ => fun
  | [d] => { results := [.lit (.bool true)], args := [d] }
  | _ => none }
def fnBalancedRow : OpenClaim := { program := "ythpjpnilmpihaaa", sum := "82d60fed657d9ee35c7ee0175e413e1d28e7473e4a1b2f9d66518f93fa41fa53", func := "loop.example/g03228/laws.FnBalanced", spec := "fnBalanced", apart := false }
def FnBalancedSaid : Prop := fnBalancedRow.holds Try.pinned (OpenSpec.ofChange fnBalancedSpec)

/-- ITS FALSE NEIGHBOUR: 'it returns false'. Refute it at one input. -/
def fnBalancedWrong : ChangeSpec := { name := "fnBalanced", fn := fun _ => fun
  | [d] => { results := [.lit (.bool false)], args := [d] }
  | _ => none }
def FnBalancedWrongFalsely : Prop := fnBalancedRow.holds Try.pinned (OpenSpec.ofChange fnBalancedWrong)

/-- 'laws.FnPower': WHATEVER THE INPUT: true; the input reads as it did. -/
def fnPowerSpec : ChangeSpec := { name := "fnPower", fn := fun _ => fun
  | [d] => { results := [.lit (.bool true)], args := [d] }
  | _ => none }
def fnPowerRow : OpenClaim := { program := "ythpjpnilmpihaaa", sum := "82d60fed657d9ee35c7ee0175e413e1d28e7473e4a1b2f9d66518f93fa41fa53", func := "loop.example/g03228/laws.FnPower", spec := "fnPower", apart := false }
def FnPowerSaid : Prop := fnPowerRow.holds Try.pinned (OpenSpec.ofChange fnPowerSpec)

/-- ITS FALSE NEIGHBOUR: 'it returns false'. Refute it at one input. -/
def fnPowerWrong : ChangeSpec := { name := "fnPower", fn := fun _ => fun
  | [d] => { results := [.lit (.bool false)], args := [d] }
  | _ => none }
def FnPowerWrongFalsely : Prop := fnPowerRow.holds Try.pinned (OpenSpec.ofChange fnPowerWrong)

/- THE SECOND FORM. 'bulk': how many values and letters a reading holds, each counted each time it is reached (what is shared counts as often as it is met; a slice's spare places count too). A statement '..UptoSaid' is the law's where the arguments, and the package variables that the reading takes, are together of bulk at most 1048576: NARROWER than '..Said'. Prove '..Said' where nothing that the law and all that it calls make is longer than what came in: it says more and counts as full. Else prove '..UptoSaid'. A law counts once. -/
mutual
def uptoBulk {H : Type} : DataW H → Nat
  | .lit (.string bytes) => bytes.length + 1
  | .lit _ => 1
  | .nil => 1
  | .ptr d => uptoBulk d + 1
  | .slice elems spare => uptoBulkAll elems + uptoBulkAll spare + 1
  | .agg parts => uptoBulkAll parts + 1
  | .iface _ d => uptoBulk d + 1
  | .map entries => uptoBulkEntries entries + 1
  | .held _ => 1
def uptoBulkAll {H : Type} : List (DataW H) → Nat
  | [] => 0
  | d :: r => uptoBulk d + uptoBulkAll r
def uptoBulkEntries {H : Type} : List (Lit × DataW H) → Nat
  | [] => 0
  | x :: r => uptoBulkEntry x + uptoBulkEntries r
def uptoBulkEntry {H : Type} : Lit × DataW H → Nat
  | (.string bytes, d) => bytes.length + uptoBulk d + 1
  | (_, d) => uptoBulk d + 1
 end
def uptoSmall : (H : Type) → List (DataW H) → Bool := fun _ ds => decide (uptoBulkAll ds ≤ 1048576)
def OpenSpec.upto (s : _root_.Go.ChangeSpec) : _root_.Go.OpenSpec := { _root_.Go.OpenSpec.ofChange s with cond := some uptoSmall }

/-- 'laws.FnMechanical', WHERE WHAT IT READS IS OF BULK AT MOST 1048576: true; the input reads as it did. -/
def fnMechanicalUptoRow : OpenClaim := { program := "ythpjpnilmpihaaa", sum := "82d60fed657d9ee35c7ee0175e413e1d28e7473e4a1b2f9d66518f93fa41fa53", func := "loop.example/g03228/laws.FnMechanical", spec := "fnMechanical", apart := false, narrowed := true }
def FnMechanicalUptoSaid : Prop := fnMechanicalUptoRow.holds Try.pinned (OpenSpec.upto fnMechanicalSpec)

/-- 'laws.FnExactFactorsOf', WHERE WHAT IT READS IS OF BULK AT MOST 1048576: true; the input reads as it did. -/
def fnExactFactorsOfUptoRow : OpenClaim := { program := "ythpjpnilmpihaaa", sum := "82d60fed657d9ee35c7ee0175e413e1d28e7473e4a1b2f9d66518f93fa41fa53", func := "loop.example/g03228/laws.FnExactFactorsOf", spec := "fnExactFactorsOf", apart := false, narrowed := true }
def FnExactFactorsOfUptoSaid : Prop := fnExactFactorsOfUptoRow.holds Try.pinned (OpenSpec.upto fnExactFactorsOfSpec)

/-- 'laws.FnExactSlopeOf', WHERE WHAT IT READS IS OF BULK AT MOST 1048576: true; the input reads as it did. -/
def fnExactSlopeOfUptoRow : OpenClaim := { program := "ythpjpnilmpihaaa", sum := "82d60fed657d9ee35c7ee0175e413e1d28e7473e4a1b2f9d66518f93fa41fa53", func := "loop.example/g03228/laws.FnExactSlopeOf", spec := "fnExactSlopeOf", apart := false, narrowed := true }
def FnExactSlopeOfUptoSaid : Prop := fnExactSlopeOfUptoRow.holds Try.pinned (OpenSpec.upto fnExactSlopeOfSpec)

/-- 'laws.FnParities', WHERE WHAT IT READS IS OF BULK AT MOST 1048576: true; the input reads as it did. -/
def fnParitiesUptoRow : OpenClaim := { program := "ythpjpnilmpihaaa", sum := "82d60fed657d9ee35c7ee0175e413e1d28e7473e4a1b2f9d66518f93fa41fa53", func := "loop.example/g03228/laws.FnParities", spec := "fnParities", apart := false, narrowed := true }
def FnParitiesUptoSaid : Prop := fnParitiesUptoRow.holds Try.pinned (OpenSpec.upto fnParitiesSpec)

/-- 'laws.FnChristoffel', WHERE WHAT IT READS IS OF BULK AT MOST 1048576: true; the input reads as it did. -/
def fnChristoffelUptoRow : OpenClaim := { program := "ythpjpnilmpihaaa", sum := "82d60fed657d9ee35c7ee0175e413e1d28e7473e4a1b2f9d66518f93fa41fa53", func := "loop.example/g03228/laws.FnChristoffel", spec := "fnChristoffel", apart := false, narrowed := true }
def FnChristoffelUptoSaid : Prop := fnChristoffelUptoRow.holds Try.pinned (OpenSpec.upto fnChristoffelSpec)

/-- 'laws.FnWords', WHERE WHAT IT READS IS OF BULK AT MOST 1048576: true; the input reads as it did. -/
def fnWordsUptoRow : OpenClaim := { program := "ythpjpnilmpihaaa", sum := "82d60fed657d9ee35c7ee0175e413e1d28e7473e4a1b2f9d66518f93fa41fa53", func := "loop.example/g03228/laws.FnWords", spec := "fnWords", apart := false, narrowed := true }
def FnWordsUptoSaid : Prop := fnWordsUptoRow.holds Try.pinned (OpenSpec.upto fnWordsSpec)

/-- 'laws.FnRotated', WHERE WHAT IT READS IS OF BULK AT MOST 1048576: true; the input reads as it did. -/
def fnRotatedUptoRow : OpenClaim := { program := "ythpjpnilmpihaaa", sum := "82d60fed657d9ee35c7ee0175e413e1d28e7473e4a1b2f9d66518f93fa41fa53", func := "loop.example/g03228/laws.FnRotated", spec := "fnRotated", apart := false, narrowed := true }
def FnRotatedUptoSaid : Prop := fnRotatedUptoRow.holds Try.pinned (OpenSpec.upto fnRotatedSpec)

/-- 'laws.FnBalanced', WHERE WHAT IT READS IS OF BULK AT MOST 1048576: true; the input reads as it did. -/
def fnBalancedUptoRow : OpenClaim := { program := "ythpjpnilmpihaaa", sum := "82d60fed657d9ee35c7ee0175e413e1d28e7473e4a1b2f9d66518f93fa41fa53", func := "loop.example/g03228/laws.FnBalanced", spec := "fnBalanced", apart := false, narrowed := true }
def FnBalancedUptoSaid : Prop := fnBalancedUptoRow.holds Try.pinned (OpenSpec.upto fnBalancedSpec)

/-- 'laws.FnPower', WHERE WHAT IT READS IS OF BULK AT MOST 1048576: true; the input reads as it did. -/
def fnPowerUptoRow : OpenClaim := { program := "ythpjpnilmpihaaa", sum := "82d60fed657d9ee35c7ee0175e413e1d28e7473e4a1b2f9d66518f93fa41fa53", func := "loop.example/g03228/laws.FnPower", spec := "fnPower", apart := false, narrowed := true }
def FnPowerUptoSaid : Prop := fnPowerUptoRow.holds Try.pinned (OpenSpec.upto fnPowerSpec)

end Rows
end Go.Proofs.Ythpjpnilmpihaaa
