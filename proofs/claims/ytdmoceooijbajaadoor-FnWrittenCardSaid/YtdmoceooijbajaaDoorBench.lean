/- Contracts of the laws' own helpers on modulators and benches, of PlainMemory and of the two NewBench. (Printed by mkbench.py.) -/
import Derived.Test.YtdmoceooijbajaaDoorOrdM
import Derived.Test.YtdmoceooijbajaaDoorMkMod
import Derived.Deep.CutRange
namespace Go.Proofs.YtdmoceooijbajaaDoor
open Go.RowKit
set_option linter.unusedVariables false
set_option linter.unusedSimpArgs false
structure Be where
  levels : Int
  step : Int
  coefs : List Int
  memory : List Int
  input : List Int
  output : List Int
  errors : List Int
theorem wrote_alloc' {w w' : World} {o : Obj} {A : Option Addr} (h : Wrote (w.alloc o) w' A) : Wrote w w' A := (World.grownBy_alloc w o _).trans h
theorem blk_hi {w w' : World} {g n : Nat} {t : TypeId} {cs : Array Value} {A : Option Addr} (h : Blk w g t cs) (hw : Wrote w w' A) (hl : Hi A n) (hg : n ≤ g) : Blk w' g t cs := blk_wrote_hi h hw hl hg
theorem eqQuantiser_same (l s : Int) (w : World) : Calls Tryd.prog 32 #[.agg #[.int .i64 l, .int .i64 s], .agg #[.int .i64 l, .int .i64 s]] w fun e w' => e = .returned (.bool true) ∧ Below w.heap.size w w' := by
  have t0 : (l != l) = false := by simp
  have t1 : (s != s) = false := by simp
  go_enter Tryd.func32, Tryd.ntmps32
  go_wp2
  go_ret
  exact ⟨rfl, ((Below.refl _ _).alloc (Nat.le_refl _) _).alloc (by simp) _⟩
theorem eqModulator_same (A D : Option Addr) (c d : Nat) (xs : List Int) (l s : Int) (w : World) (h1 : Rd w w.heap.size A xs) (h2 : Rd w w.heap.size D xs) (hn : xs.length ≤ 1099511627776) :
    Calls Tryd.prog 13 #[.agg #[.int .i64 l, .int .i64 s, .slice A xs.length c], .agg #[.int .i64 l, .int .i64 s, .slice D xs.length d]] w fun e w' => e = .returned (.bool true) ∧ Below w.heap.size w w' := by
  have Hb : Hid (Below w.heap.size w ((w.alloc (.cells #[.int .i64 l, .int .i64 s, .slice A xs.length c] 31)).alloc (.cells #[.int .i64 l, .int .i64 s, .slice D xs.length d] 31))) := ((Below.refl _ _).alloc (Nat.le_refl _) _).alloc (by simp) _
  have B0 := (Blk.new w 31 #[.int .i64 l, .int .i64 s, .slice A xs.length c]).alloc (.cells #[.int .i64 l, .int .i64 s, .slice D xs.length d] 31)
  have D0 := Blk.new (w.alloc (.cells #[.int .i64 l, .int .i64 s, .slice A xs.length c] 31)) 31 #[.int .i64 l, .int .i64 s, .slice D xs.length d]
  simp only [World.size_alloc] at D0
  go_enter Tryd.func13, Tryd.ntmps13
  go_wp2_with fail
  refine (eqQuantiser_same l s _).mono ?_; rintro e w1 ⟨rfl, k1⟩
  have B1 := B0.past k1
  have D1 := D0.past k1
  replace Hb := Lib.hid (thenB Hb.out k1)
  have c1 := B1.cell 2
  have e1 := D1.cell 2
  simp at c1 e1
  clear B0 D0 k1
  go_wp2_with fail
  refine (eqIntS_same A D c d xs _ (h1.past Hb.out) (h2.past Hb.out) hn).mono ?_; rintro e w2 ⟨rfl, k2⟩
  replace Hb := Lib.hid (thenB Hb.out k2)
  clear B1 D1 c1 e1 k2
  go_wp2_with fail
  go_ret
  exact ⟨rfl, Hb.out⟩
theorem markModulator_any (A : Option Addr) (B c : Nat) (xs : List Int) (l s k : Int) (w : World) (h1 : Own w B A c xs) (hn : xs.length ≤ 1048576) (k1 : 0 ≤ k) (k2 : k ≤ 1099511627776) :
    Calls Tryd.prog 14 #[.agg #[.int .i64 l, .int .i64 s, .slice A xs.length c], .int .i64 k] w (RetMark w A c xs.length k) := by
  have Hb : Below w.heap.size w (w.alloc (.cells #[.int .i64 l, .int .i64 s, .slice A xs.length c] 31)) := (Below.refl _ _).alloc (Nat.le_refl _) _
  have O1 := own_past h1 Hb
  clear h1 Hb
  go_enter Tryd.func14, Tryd.ntmps14
  go_wp2_with fail
  refine (markIntS_any A _ c xs k _ O1 (by omega) (by omega) (by omega)).mono ?_; rintro e w1 ⟨rfl, O1', k1⟩
  go_wp2_with fail
  go_ret
  exact ⟨rfl, O1', wrote_alloc' k1⟩
theorem heldModulator_any (A : Option Addr) (c n : Nat) (l s k : Int) (w : World) (h1 : Rd w w.heap.size A (marks k n)) (hn : n ≤ 1048576) (k1 : 0 ≤ k) (k2 : k ≤ 1099511627776) :
    Calls Tryd.prog 15 #[.agg #[.int .i64 l, .int .i64 s, .slice A n c], .int .i64 k] w fun e w' => e = .returned (.int .i64 (k + n)) ∧ Below w.heap.size w w' := by
  have Hb : Below w.heap.size w (w.alloc (.cells #[.int .i64 l, .int .i64 s, .slice A n c] 31)) := (Below.refl _ _).alloc (Nat.le_refl _) _
  have R1 := h1.past Hb
  have HB := Lib.hid Hb
  clear h1 Hb
  go_enter Tryd.func15, Tryd.ntmps15
  go_wp2_with fail
  refine (heldIntS_any A c n k _ R1 (by omega) (by omega) (by omega)).mono ?_; rintro e w1 ⟨rfl, rfl⟩
  go_wp2_with fail
  go_ret
  exact ⟨rfl, HB.out⟩
def RetMark5 (w : World) (A1 A2 A3 A4 A5 : Option Addr) (c1 c2 c3 c4 c5 n1 n2 n3 n4 n5 : Nat) (k : Int) (e : Ending) (w' : World) : Prop :=
  ∃ wa wb wc wd, e = .returned (.int .i64 (k + n1 + n2 + n3 + n4 + n5)) ∧ Own w' 0 A1 c1 (marks (k) n1) ∧ Own w' 0 A2 c2 (marks (k + n1) n2) ∧ Own w' 0 A3 c3 (marks (k + n1 + n2) n3) ∧ Own w' 0 A4 c4 (marks (k + n1 + n2 + n3) n4) ∧ Own w' 0 A5 c5 (marks (k + n1 + n2 + n3 + n4) n5) ∧ Wrote w wa A1 ∧ Wrote wa wb A2 ∧ Wrote wb wc A3 ∧ Wrote wc wd A4 ∧ Wrote wd w' A5
end Go.Proofs.YtdmoceooijbajaaDoor
