/-
  NARROWER THAN 'FOR EVERY INPUT', by the rows' own cells (each row's printed sentence says how): FnBench: laid · FnBenchKeeps: laid · FnExactRunBench: laid · FnExactExecuteLine: laid.
  DERIVED. THE GIVEN ROWS OF THIS SEAT. 4 by the template 'for every input the law returns true; each argument reads behind the call as it read before'; 0 by the template 'total and deterministic' (their statements: YtgkijkenbjjnmaaGreatDoorTotals.lean).
  GIVEN WITH THE SEED: the statements are not yours to turn. If you find one false, say at which input.
  Laid BY PROGRAM, IN A SANDBOX (cutbox-rows.mjs): the forced cells as the released guide's own fill.sh prints them over the translation 33991a946dac7a07… (all of the seat's roots in one cut). By AI agents, Wed Nov 11 2026. No macro, syntax, notation, axiom, sorry.
-/
import Derived.Test.YtgkijkenbjjnmaaGreatDoorChecked
import GoSem.PinnedTables
import GoSem.Claim
import GoSem.ClaimJoined
import GoSem.ClaimMapViews
import Derived.JoinedTies
import Derived.KernelRfl
namespace Go.Proofs.YtgkijkenbjjnmaaGreatDoor
/- THE CELL 'sum', in the pinned program and in every row, IS THE sha256 OF THE DUMP (.gsa) THAT YtgkijkenbjjnmaaGreatDoorProg.lean LOADS. Nothing in Lean hashes anything: it is a label: what it is worth is what the hold of that sum in a sandbox is worth. -/
noncomputable def Tryz.pinned : Pinned := { name := "ytgkijkenbjjnmaagreatdoor", sum := "33991a946dac7a074584141de079e55a2efbab35b8db993234c4e7cde6f147b9", checked := Tryz.checked }
namespace Rows
def none {H : Type} : Left H := { results := [], args := [] }

/- WHAT THE LISTED PACKAGE-LEVEL VARIABLES READ AS WHEN THE CALL BEGINS. Each datum BY PROGRAM (the guide's laid-datum.mjs) off the statement by which the dump's own 'gosem.cut.vars' lays the variable. In a bare row this is a premise. The card (YtgkijkenbjjnmaaGreatDoorCards.lean) ties it to the program's text. -/
def laid_unicode_utf8_acceptRanges {H : Type} : DataW H := .agg [.agg [.lit (.int .u8 128), .lit (.int .u8 191)], .agg [.lit (.int .u8 160), .lit (.int .u8 191)], .agg [.lit (.int .u8 128), .lit (.int .u8 159)], .agg [.lit (.int .u8 144), .lit (.int .u8 191)], .agg [.lit (.int .u8 128), .lit (.int .u8 143)], .agg [.lit (.int .u8 0), .lit (.int .u8 0)], .agg [.lit (.int .u8 0), .lit (.int .u8 0)], .agg [.lit (.int .u8 0), .lit (.int .u8 0)], .agg [.lit (.int .u8 0), .lit (.int .u8 0)], .agg [.lit (.int .u8 0), .lit (.int .u8 0)], .agg [.lit (.int .u8 0), .lit (.int .u8 0)], .agg [.lit (.int .u8 0), .lit (.int .u8 0)], .agg [.lit (.int .u8 0), .lit (.int .u8 0)], .agg [.lit (.int .u8 0), .lit (.int .u8 0)], .agg [.lit (.int .u8 0), .lit (.int .u8 0)], .agg [.lit (.int .u8 0), .lit (.int .u8 0)]]
/-- One of Go's own tables, pinned by name: the form's constant. -/
def laid_unicode_utf8_first : DataW Unit := Go.Pinned.utf8First

/-- 'laws.FnBench': WHATEVER THE INPUT: true; the input reads as it did. -/
def fnBenchSpec : ChangeSpec := { name := "fnBench", fn := fun _ => fun
  | [d] => { results := [.lit (.bool true)], args := [d] }
  | _ => none }
def fnBenchRow : OpenClaim := { program := "ytgkijkenbjjnmaagreatdoor", sum := "33991a946dac7a074584141de079e55a2efbab35b8db993234c4e7cde6f147b9", func := "loop.example/g03228/laws.FnBench", spec := "fnBench", inPlace := ["internal/abi.NoEscape", "internal/bytealg.MakeNoZero", "internal/bytealg.CountString", "internal/bytealg.IndexByteString", "internal/bytealg.IndexString"], unfollowed := true, recurses := true, named := ["unicode/utf8.first", "unicode/utf8.acceptRanges", "internal/bytealg.MaxLen"], apart := false, laid := [("unicode/utf8.acceptRanges", laid_unicode_utf8_acceptRanges), ("unicode/utf8.first", laid_unicode_utf8_first)] }
def FnBenchSaid : Prop := fnBenchRow.holds Tryz.pinned (OpenSpec.ofChange fnBenchSpec)

/-- ITS FALSE NEIGHBOUR: 'it returns false'. Refute it at one input. -/
def fnBenchWrong : ChangeSpec := { name := "fnBench", fn := fun _ => fun
  | [d] => { results := [.lit (.bool false)], args := [d] }
  | _ => none }
def FnBenchWrongFalsely : Prop := fnBenchRow.holds Tryz.pinned (OpenSpec.ofChange fnBenchWrong)

/-- 'laws.FnBenchKeeps': WHATEVER THE INPUT: true; the input reads as it did. -/
def fnBenchKeepsSpec : ChangeSpec := { name := "fnBenchKeeps", fn := fun _ => fun
  | [d] => { results := [.lit (.bool true)], args := [d] }
  | _ => none }
def fnBenchKeepsRow : OpenClaim := { program := "ytgkijkenbjjnmaagreatdoor", sum := "33991a946dac7a074584141de079e55a2efbab35b8db993234c4e7cde6f147b9", func := "loop.example/g03228/laws.FnBenchKeeps", spec := "fnBenchKeeps", inPlace := ["internal/bytealg.CountString", "internal/bytealg.IndexByteString", "internal/bytealg.IndexString", "internal/abi.NoEscape", "internal/bytealg.MakeNoZero"], unfollowed := true, recurses := true, named := ["unicode/utf8.first", "unicode/utf8.acceptRanges", "internal/bytealg.MaxLen"], apart := false, laid := [("unicode/utf8.acceptRanges", laid_unicode_utf8_acceptRanges), ("unicode/utf8.first", laid_unicode_utf8_first)] }
def FnBenchKeepsSaid : Prop := fnBenchKeepsRow.holds Tryz.pinned (OpenSpec.ofChange fnBenchKeepsSpec)

/-- ITS FALSE NEIGHBOUR: 'it returns false'. Refute it at one input. -/
def fnBenchKeepsWrong : ChangeSpec := { name := "fnBenchKeeps", fn := fun _ => fun
  | [d] => { results := [.lit (.bool false)], args := [d] }
  | _ => none }
def FnBenchKeepsWrongFalsely : Prop := fnBenchKeepsRow.holds Tryz.pinned (OpenSpec.ofChange fnBenchKeepsWrong)

/-- 'laws.FnExactRunBench': WHATEVER THE INPUT: true; the input reads as it did. -/
def fnExactRunBenchSpec : ChangeSpec := { name := "fnExactRunBench", fn := fun _ => fun
  | [d] => { results := [.lit (.bool true)], args := [d] }
  | _ => none }
def fnExactRunBenchRow : OpenClaim := { program := "ytgkijkenbjjnmaagreatdoor", sum := "33991a946dac7a074584141de079e55a2efbab35b8db993234c4e7cde6f147b9", func := "loop.example/g03228/laws.FnExactRunBench", spec := "fnExactRunBench", inPlace := ["internal/bytealg.CountString", "internal/bytealg.IndexByteString", "internal/bytealg.IndexString", "internal/abi.NoEscape", "internal/bytealg.MakeNoZero"], unfollowed := true, recurses := true, named := ["unicode/utf8.first", "unicode/utf8.acceptRanges", "internal/bytealg.MaxLen"], apart := false, laid := [("unicode/utf8.acceptRanges", laid_unicode_utf8_acceptRanges), ("unicode/utf8.first", laid_unicode_utf8_first)] }
def FnExactRunBenchSaid : Prop := fnExactRunBenchRow.holds Tryz.pinned (OpenSpec.ofChange fnExactRunBenchSpec)

/-- ITS FALSE NEIGHBOUR: 'it returns false'. Refute it at one input. -/
def fnExactRunBenchWrong : ChangeSpec := { name := "fnExactRunBench", fn := fun _ => fun
  | [d] => { results := [.lit (.bool false)], args := [d] }
  | _ => none }
def FnExactRunBenchWrongFalsely : Prop := fnExactRunBenchRow.holds Tryz.pinned (OpenSpec.ofChange fnExactRunBenchWrong)

/-- 'laws.FnExactExecuteLine': WHATEVER THE INPUT: true; the input reads as it did. -/
def fnExactExecuteLineSpec : ChangeSpec := { name := "fnExactExecuteLine", fn := fun _ => fun
  | [d1, d2] => { results := [.lit (.bool true)], args := [d1, d2] }
  | _ => none }
def fnExactExecuteLineRow : OpenClaim := { program := "ytgkijkenbjjnmaagreatdoor", sum := "33991a946dac7a074584141de079e55a2efbab35b8db993234c4e7cde6f147b9", func := "loop.example/g03228/laws.FnExactExecuteLine", spec := "fnExactExecuteLine", inPlace := ["internal/bytealg.CountString", "internal/bytealg.IndexByteString", "internal/bytealg.IndexString", "internal/abi.NoEscape", "internal/bytealg.MakeNoZero"], unfollowed := true, recurses := true, named := ["unicode/utf8.first", "unicode/utf8.acceptRanges", "internal/bytealg.MaxLen"], apart := false, laid := [("unicode/utf8.acceptRanges", laid_unicode_utf8_acceptRanges), ("unicode/utf8.first", laid_unicode_utf8_first)] }
def FnExactExecuteLineSaid : Prop := fnExactExecuteLineRow.holds Tryz.pinned (OpenSpec.ofChange fnExactExecuteLineSpec)

/-- ITS FALSE NEIGHBOUR: 'it returns false'. Refute it at one input. -/
def fnExactExecuteLineWrong : ChangeSpec := { name := "fnExactExecuteLine", fn := fun _ => fun
  | [d1, d2] => { results := [.lit (.bool false)], args := [d1, d2] }
  | _ => none }
def FnExactExecuteLineWrongFalsely : Prop := fnExactExecuteLineRow.holds Tryz.pinned (OpenSpec.ofChange fnExactExecuteLineWrong)

/- THE SECOND FORM. 'bulk': how many values and letters a reading holds, each counted each time it is reached (what is shared counts as often as it is met; a slice's spare places count too). A statement '..UptoSaid' is the law's where the arguments, and the package variables that the reading takes, are together of bulk at most 1048576: NARROWER than '..Said'. Prove '..Said' where nothing that the law and all that it calls make is longer than what came in: it says more and counts as full. Else prove '..UptoSaid'. A law counts once. -/
mutual
def uptoBulk {H : Type} : DataW H → Nat
  | .lit (.string bytes) => bytes.length + 1
  | .lit _ => 1
  | .nil => 1
  | .ptr d => uptoBulk d + 1
  | .slice elems spare => uptoBulkAll elems + uptoBulkAll spare + 1
  | .agg parts => uptoBulkAll parts + 1
  | .iface _ d => uptoBulk d + 1
  | .map entries => uptoBulkEntries entries + 1
  | .held _ => 1
def uptoBulkAll {H : Type} : List (DataW H) → Nat
  | [] => 0
  | d :: r => uptoBulk d + uptoBulkAll r
def uptoBulkEntries {H : Type} : List (Lit × DataW H) → Nat
  | [] => 0
  | x :: r => uptoBulkEntry x + uptoBulkEntries r
def uptoBulkEntry {H : Type} : Lit × DataW H → Nat
  | (.string bytes, d) => bytes.length + uptoBulk d + 1
  | (_, d) => uptoBulk d + 1
 end
def uptoSmall : (H : Type) → List (DataW H) → Bool := fun _ ds => decide (uptoBulkAll ds ≤ 1048576)
def OpenSpec.upto (s : _root_.Go.ChangeSpec) : _root_.Go.OpenSpec := { _root_.Go.OpenSpec.ofChange s with cond := some uptoSmall }

/-- 'laws.FnBench', WHERE WHAT IT READS IS OF BULK AT MOST 1048576: true; the input reads as it did. -/
def fnBenchUptoRow : OpenClaim := { program := "ytgkijkenbjjnmaagreatdoor", sum := "33991a946dac7a074584141de079e55a2efbab35b8db993234c4e7cde6f147b9", func := "loop.example/g03228/laws.FnBench", spec := "fnBench", inPlace := ["internal/abi.NoEscape", "internal/bytealg.MakeNoZero", "internal/bytealg.CountString", "internal/bytealg.IndexByteString", "internal/bytealg.IndexString"], unfollowed := true, recurses := true, named := ["unicode/utf8.first", "unicode/utf8.acceptRanges", "internal/bytealg.MaxLen"], apart := false, laid := [("unicode/utf8.acceptRanges", laid_unicode_utf8_acceptRanges), ("unicode/utf8.first", laid_unicode_utf8_first)], narrowed := true }
def FnBenchUptoSaid : Prop := fnBenchUptoRow.holds Tryz.pinned (OpenSpec.upto fnBenchSpec)

/-- 'laws.FnBenchKeeps', WHERE WHAT IT READS IS OF BULK AT MOST 1048576: true; the input reads as it did. -/
def fnBenchKeepsUptoRow : OpenClaim := { program := "ytgkijkenbjjnmaagreatdoor", sum := "33991a946dac7a074584141de079e55a2efbab35b8db993234c4e7cde6f147b9", func := "loop.example/g03228/laws.FnBenchKeeps", spec := "fnBenchKeeps", inPlace := ["internal/bytealg.CountString", "internal/bytealg.IndexByteString", "internal/bytealg.IndexString", "internal/abi.NoEscape", "internal/bytealg.MakeNoZero"], unfollowed := true, recurses := true, named := ["unicode/utf8.first", "unicode/utf8.acceptRanges", "internal/bytealg.MaxLen"], apart := false, laid := [("unicode/utf8.acceptRanges", laid_unicode_utf8_acceptRanges), ("unicode/utf8.first", laid_unicode_utf8_first)], narrowed := true }
def FnBenchKeepsUptoSaid : Prop := fnBenchKeepsUptoRow.holds Tryz.pinned (OpenSpec.upto fnBenchKeepsSpec)

/-- 'laws.FnExactRunBench', WHERE WHAT IT READS IS OF BULK AT MOST 1048576: true; the input reads as it did. -/
def fnExactRunBenchUptoRow : OpenClaim := { program := "ytgkijkenbjjnmaagreatdoor", sum := "33991a946dac7a074584141de079e55a2efbab35b8db993234c4e7cde6f147b9", func := "loop.example/g03228/laws.FnExactRunBench", spec := "fnExactRunBench", inPlace := ["internal/bytealg.CountString", "internal/bytealg.IndexByteString", "internal/bytealg.IndexString", "internal/abi.NoEscape", "internal/bytealg.MakeNoZero"], unfollowed := true, recurses := true, named := ["unicode/utf8.first", "unicode/utf8.acceptRanges", "internal/bytealg.MaxLen"], apart := false, laid := [("unicode/utf8.acceptRanges", laid_unicode_utf8_acceptRanges), ("unicode/utf8.first", laid_unicode_utf8_first)], narrowed := true }
def FnExactRunBenchUptoSaid : Prop := fnExactRunBenchUptoRow.holds Tryz.pinned (OpenSpec.upto fnExactRunBenchSpec)

/-- 'laws.FnExactExecuteLine', WHERE WHAT IT READS IS OF BULK AT MOST 1048576: true; the input reads as it did. -/
def fnExactExecuteLineUptoRow : OpenClaim := { program := "ytgkijkenbjjnmaagreatdoor", sum := "33991a946dac7a074584141de079e55a2efbab35b8db993234c4e7cde6f147b9", func := "loop.example/g03228/laws.FnExactExecuteLine", spec := "fnExactExecuteLine", inPlace := ["internal/bytealg.CountString", "internal/bytealg.IndexByteString", "internal/bytealg.IndexString", "internal/abi.NoEscape", "internal/bytealg.MakeNoZero"], unfollowed := true, recurses := true, named := ["unicode/utf8.first", "unicode/utf8.acceptRanges", "internal/bytealg.MaxLen"], apart := false, laid := [("unicode/utf8.acceptRanges", laid_unicode_utf8_acceptRanges), ("unicode/utf8.first", laid_unicode_utf8_first)], narrowed := true }
def FnExactExecuteLineUptoSaid : Prop := fnExactExecuteLineUptoRow.holds Tryz.pinned (OpenSpec.upto fnExactExecuteLineSpec)

end Rows
end Go.Proofs.YtgkijkenbjjnmaaGreatDoor
