/-
  No cell of these rows narrows 'for every input' (looked for: loops, veiled, ifaces, maps, wideKeys, modest, calm, conditions, laid).
  DERIVED. THE GIVEN ROWS OF THIS SEAT. 3 by the template 'for every input the law returns true; each argument reads behind the call as it read before'; 0 by the template 'total and deterministic' (their statements: YthdkdcaekfcmoaaTotals.lean).
  GIVEN WITH THE SEED: the statements are not yours to turn. If you find one false, say at which input.
  Laid BY PROGRAM, IN A SANDBOX (cutbox-rows.mjs): the forced cells as the released guide's own fill.sh prints them over the translation 87cda3c8a1b97771… (all of the seat's roots in one cut). By AI agents, Wed Nov 11 2026. No macro, syntax, notation, axiom, sorry.
-/
import Derived.Test.YthdkdcaekfcmoaaChecked
import GoSem.Claim
import GoSem.ClaimJoined
import GoSem.ClaimMapViews
import Derived.JoinedTies
import Derived.KernelRfl
namespace Go.Proofs.Ythdkdcaekfcmoaa
/- THE CELL 'sum', in the pinned program and in every row, IS THE sha256 OF THE DUMP (.gsa) THAT YthdkdcaekfcmoaaProg.lean LOADS. Nothing in Lean hashes anything: it is a label: what it is worth is what the hold of that sum in a sandbox is worth. -/
noncomputable def Try.pinned : Pinned := { name := "ythdkdcaekfcmoaa", sum := "87cda3c8a1b9777126227b502a2d728d2a242efcb3799403f06100ef85b92ac9", checked := Try.checked }
namespace Rows
def none {H : Type} : Left H := { results := [], args := [] }

/-- 'laws.FnSingles': WHATEVER THE INPUT: true; the input reads as it did. -/
def fnSinglesSpec : ChangeSpec := { name := "fnSingles", fn := fun _ => fun
  | [d] => { results := [.lit (.bool true)], args := [d] }
  | _ => none }
def fnSinglesRow : OpenClaim := { program := "ythdkdcaekfcmoaa", sum := "87cda3c8a1b9777126227b502a2d728d2a242efcb3799403f06100ef85b92ac9", func := "loop.example/g03228/laws.FnSingles", spec := "fnSingles", apart := false }
def FnSinglesSaid : Prop := fnSinglesRow.holds Try.pinned (OpenSpec.ofChange fnSinglesSpec)

/-- ITS FALSE NEIGHBOUR: 'it returns false'. Refute it at one input. -/
def fnSinglesWrong : ChangeSpec := { name := "fnSingles", fn := fun _ => fun
  | [d] => { results := [.lit (.bool false)], args := [d] }
  | _ => none }
def FnSinglesWrongFalsely : Prop := fnSinglesRow.holds Try.pinned (OpenSpec.ofChange fnSinglesWrong)

/-- 'laws.FnExactToSingles': WHATEVER THE INPUT: true; the input reads as it did. -/
def fnExactToSinglesSpec : ChangeSpec := { name := "fnExactToSingles", fn := fun _ => fun
  | [d1, d2] => { results := [.lit (.bool true)], args := [d1, d2] }
  | _ => none }
def fnExactToSinglesRow : OpenClaim := { program := "ythdkdcaekfcmoaa", sum := "87cda3c8a1b9777126227b502a2d728d2a242efcb3799403f06100ef85b92ac9", func := "loop.example/g03228/laws.FnExactToSingles", spec := "fnExactToSingles", apart := false }
def FnExactToSinglesSaid : Prop := fnExactToSinglesRow.holds Try.pinned (OpenSpec.ofChange fnExactToSinglesSpec)

/-- ITS FALSE NEIGHBOUR: 'it returns false'. Refute it at one input. -/
def fnExactToSinglesWrong : ChangeSpec := { name := "fnExactToSingles", fn := fun _ => fun
  | [d1, d2] => { results := [.lit (.bool false)], args := [d1, d2] }
  | _ => none }
def FnExactToSinglesWrongFalsely : Prop := fnExactToSinglesRow.holds Try.pinned (OpenSpec.ofChange fnExactToSinglesWrong)

/-- 'laws.FnExactFromSingles': WHATEVER THE INPUT: true; the input reads as it did. -/
def fnExactFromSinglesSpec : ChangeSpec := { name := "fnExactFromSingles", fn := fun _ => fun
  | [d1, d2] => { results := [.lit (.bool true)], args := [d1, d2] }
  | _ => none }
def fnExactFromSinglesRow : OpenClaim := { program := "ythdkdcaekfcmoaa", sum := "87cda3c8a1b9777126227b502a2d728d2a242efcb3799403f06100ef85b92ac9", func := "loop.example/g03228/laws.FnExactFromSingles", spec := "fnExactFromSingles", apart := false }
def FnExactFromSinglesSaid : Prop := fnExactFromSinglesRow.holds Try.pinned (OpenSpec.ofChange fnExactFromSinglesSpec)

/-- ITS FALSE NEIGHBOUR: 'it returns false'. Refute it at one input. -/
def fnExactFromSinglesWrong : ChangeSpec := { name := "fnExactFromSingles", fn := fun _ => fun
  | [d1, d2] => { results := [.lit (.bool false)], args := [d1, d2] }
  | _ => none }
def FnExactFromSinglesWrongFalsely : Prop := fnExactFromSinglesRow.holds Try.pinned (OpenSpec.ofChange fnExactFromSinglesWrong)

/- THE SECOND FORM. 'bulk': how many values and letters a reading holds, each counted each time it is reached (what is shared counts as often as it is met; a slice's spare places count too). A statement '..UptoSaid' is the law's where the arguments, and the package variables that the reading takes, are together of bulk at most 1048576: NARROWER than '..Said'. Prove '..Said' where nothing that the law and all that it calls make is longer than what came in: it says more and counts as full. Else prove '..UptoSaid'. A law counts once. -/
mutual
def uptoBulk {H : Type} : DataW H → Nat
  | .lit (.string bytes) => bytes.length + 1
  | .lit _ => 1
  | .nil => 1
  | .ptr d => uptoBulk d + 1
  | .slice elems spare => uptoBulkAll elems + uptoBulkAll spare + 1
  | .agg parts => uptoBulkAll parts + 1
  | .iface _ d => uptoBulk d + 1
  | .map entries => uptoBulkEntries entries + 1
  | .held _ => 1
def uptoBulkAll {H : Type} : List (DataW H) → Nat
  | [] => 0
  | d :: r => uptoBulk d + uptoBulkAll r
def uptoBulkEntries {H : Type} : List (Lit × DataW H) → Nat
  | [] => 0
  | x :: r => uptoBulkEntry x + uptoBulkEntries r
def uptoBulkEntry {H : Type} : Lit × DataW H → Nat
  | (.string bytes, d) => bytes.length + uptoBulk d + 1
  | (_, d) => uptoBulk d + 1
 end
def uptoSmall : (H : Type) → List (DataW H) → Bool := fun _ ds => decide (uptoBulkAll ds ≤ 1048576)
def OpenSpec.upto (s : _root_.Go.ChangeSpec) : _root_.Go.OpenSpec := { _root_.Go.OpenSpec.ofChange s with cond := some uptoSmall }

/-- 'laws.FnSingles', WHERE WHAT IT READS IS OF BULK AT MOST 1048576: true; the input reads as it did. -/
def fnSinglesUptoRow : OpenClaim := { program := "ythdkdcaekfcmoaa", sum := "87cda3c8a1b9777126227b502a2d728d2a242efcb3799403f06100ef85b92ac9", func := "loop.example/g03228/laws.FnSingles", spec := "fnSingles", apart := false, narrowed := true }
def FnSinglesUptoSaid : Prop := fnSinglesUptoRow.holds Try.pinned (OpenSpec.upto fnSinglesSpec)

/-- 'laws.FnExactToSingles', WHERE WHAT IT READS IS OF BULK AT MOST 1048576: true; the input reads as it did. -/
def fnExactToSinglesUptoRow : OpenClaim := { program := "ythdkdcaekfcmoaa", sum := "87cda3c8a1b9777126227b502a2d728d2a242efcb3799403f06100ef85b92ac9", func := "loop.example/g03228/laws.FnExactToSingles", spec := "fnExactToSingles", apart := false, narrowed := true }
def FnExactToSinglesUptoSaid : Prop := fnExactToSinglesUptoRow.holds Try.pinned (OpenSpec.upto fnExactToSinglesSpec)

/-- 'laws.FnExactFromSingles', WHERE WHAT IT READS IS OF BULK AT MOST 1048576: true; the input reads as it did. -/
def fnExactFromSinglesUptoRow : OpenClaim := { program := "ythdkdcaekfcmoaa", sum := "87cda3c8a1b9777126227b502a2d728d2a242efcb3799403f06100ef85b92ac9", func := "loop.example/g03228/laws.FnExactFromSingles", spec := "fnExactFromSingles", apart := false, narrowed := true }
def FnExactFromSinglesUptoSaid : Prop := fnExactFromSinglesUptoRow.holds Try.pinned (OpenSpec.upto fnExactFromSinglesSpec)

end Rows
end Go.Proofs.Ythdkdcaekfcmoaa
