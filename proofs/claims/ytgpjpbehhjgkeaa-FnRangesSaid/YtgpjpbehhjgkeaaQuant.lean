/- Contracts of the program's quantiser. -/
import Derived.Test.YtgpjpbehhjgkeaaPMod
import Derived.Test.YtgpjpbehhjgkeaaBase
import Derived.Deep.RegionHeld3
import Derived.IntWalk
namespace Go.Proofs.Ytgpjpbehhjgkeaa
open Go.RowKit
set_option linter.unusedVariables false
set_option linter.unusedSimpArgs false
theorem implIsQuantiser_any (l s : Int) (w : World) :
    Calls Try.prog 17 #[.agg #[.int .i64 l, .int .i64 s]] w fun e w' => e = .returned (.bool (quantOk l s)) ∧ Below w.heap.size w w' := by
  go_enter Try.func17, Try.ntmps17
  go_wp2
  all_goals (go_ret; exact ⟨ret_bool (by simp [quantOk, inB, *]; try omega), (Below.refl _ _).alloc (Nat.le_refl _) _⟩)
set_option maxHeartbeats 1000000 in
theorem implLevelOf_yes (l s i : Int) (w : World) (hq : quantOk l s = true) (h1 : 0 ≤ i) (h2 : i < l) :
    Calls Try.prog 6 #[.agg #[.int .i64 l, .int .i64 s], .int .i64 i] w fun e w' => e = .returned (.tuple #[.int .i64 (levW l s i), .bool true]) ∧ Below w.heap.size w w' := by
  obtain ⟨l1, l2, s1, s2⟩ := quant_parts hq
  have hb0 : Below w.heap.size w (w.alloc (.cells #[.int .i64 l, .int .i64 s] 24)) := (Below.refl _ _).alloc (Nat.le_refl _) _
  have B0 := Blk.new w 24 #[.int .i64 l, .int .i64 s]
  have Hb0 := Lib.hid hb0
  have q0 := B0.cell 0
  have q1 := B0.cell 1
  simp at q0 q1
  have bl := levW_bd hq h1 h2
  have bs := ls_bd hq
  have s0 : IntKind.i64.wrap (s * (2 * i - (l - 1))) = s * (2 * i - (l - 1)) := Go.IntWalk.i64_in _ (by unfold levW at bl; omega)
  have s1' : IntKind.i64.wrap (2 * i - (l - 1)) = 2 * i - (l - 1) := Go.IntWalk.i64_in _ (by omega)
  clear hb0 bl bs
  go_enter Try.func6, Try.ntmps6
  go_wp2_with fail
  refine (implIsQuantiser_any _ _ _).mono ?_; rintro e w1 ⟨rfl, h3⟩
  have B1 := B0.past h3
  have Hb1 := Lib.hid (thenB Hb0.out h3)
  clear q0 q1 B0 h3 Hb0
  have q0 := B1.cell 0
  have q1 := B1.cell 1
  simp at q0 q1
  clear B1
  go_wp2
  go_ret2
  exact ⟨rfl, Hb1.out⟩
end Go.Proofs.Ytgpjpbehhjgkeaa
