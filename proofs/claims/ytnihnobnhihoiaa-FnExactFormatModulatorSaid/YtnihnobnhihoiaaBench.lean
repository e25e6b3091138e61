/- Contracts of the laws' own helpers on modulators and benches, of PlainMemory and of the two NewBench. (Printed by mkbench.py.) -/
import Derived.Test.YtnihnobnhihoiaaOrdM
import Derived.Test.YtnihnobnhihoiaaMkMod
import Derived.Deep.CutRange
namespace Go.Proofs.Ytnihnobnhihoiaa
open Go.RowKit
set_option linter.unusedVariables false
set_option linter.unusedSimpArgs false
structure Be where
  levels : Int
  step : Int
  coefs : List Int
  memory : List Int
  input : List Int
  output : List Int
  errors : List Int
theorem wrote_alloc' {w w' : World} {o : Obj} {A : Option Addr} (h : Wrote (w.alloc o) w' A) : Wrote w w' A := (World.grownBy_alloc w o _).trans h
theorem blk_hi {w w' : World} {g n : Nat} {t : TypeId} {cs : Array Value} {A : Option Addr} (h : Blk w g t cs) (hw : Wrote w w' A) (hl : Hi A n) (hg : n ≤ g) : Blk w' g t cs := blk_wrote_hi h hw hl hg
theorem eqQuantiser_same (l s : Int) (w : World) : Calls Try.prog 24 #[.agg #[.int .i64 l, .int .i64 s], .agg #[.int .i64 l, .int .i64 s]] w fun e w' => e = .returned (.bool true) ∧ Below w.heap.size w w' := by
  have t0 : (l != l) = false := by simp
  have t1 : (s != s) = false := by simp
  go_enter Try.func24, Try.ntmps24
  go_wp2
  go_ret
  exact ⟨rfl, ((Below.refl _ _).alloc (Nat.le_refl _) _).alloc (by simp) _⟩
theorem eqModulator_same (A D : Option Addr) (c d : Nat) (xs : List Int) (l s : Int) (w : World) (h1 : Rd w w.heap.size A xs) (h2 : Rd w w.heap.size D xs) (hn : xs.length ≤ 1099511627776) :
    Calls Try.prog 13 #[.agg #[.int .i64 l, .int .i64 s, .slice A xs.length c], .agg #[.int .i64 l, .int .i64 s, .slice D xs.length d]] w fun e w' => e = .returned (.bool true) ∧ Below w.heap.size w w' := by
  have Hb : Hid (Below w.heap.size w ((w.alloc (.cells #[.int .i64 l, .int .i64 s, .slice A xs.length c] 35)).alloc (.cells #[.int .i64 l, .int .i64 s, .slice D xs.length d] 35))) := ((Below.refl _ _).alloc (Nat.le_refl _) _).alloc (by simp) _
  have B0 := (Blk.new w 35 #[.int .i64 l, .int .i64 s, .slice A xs.length c]).alloc (.cells #[.int .i64 l, .int .i64 s, .slice D xs.length d] 35)
  have D0 := Blk.new (w.alloc (.cells #[.int .i64 l, .int .i64 s, .slice A xs.length c] 35)) 35 #[.int .i64 l, .int .i64 s, .slice D xs.length d]
  simp only [World.size_alloc] at D0
  go_enter Try.func13, Try.ntmps13
  go_wp2_with fail
  refine (eqQuantiser_same l s _).mono ?_; rintro e w1 ⟨rfl, k1⟩
  have B1 := B0.past k1
  have D1 := D0.past k1
  replace Hb := Lib.hid (thenB Hb.out k1)
  have c1 := B1.cell 2
  have e1 := D1.cell 2
  simp at c1 e1
  clear B0 D0 k1
  go_wp2_with fail
  refine (eqIntS_same A D c d xs _ (h1.past Hb.out) (h2.past Hb.out) hn).mono ?_; rintro e w2 ⟨rfl, k2⟩
  replace Hb := Lib.hid (thenB Hb.out k2)
  clear B1 D1 c1 e1 k2
  go_wp2_with fail
  go_ret
  exact ⟨rfl, Hb.out⟩
def RetMark5 (w : World) (A1 A2 A3 A4 A5 : Option Addr) (c1 c2 c3 c4 c5 n1 n2 n3 n4 n5 : Nat) (k : Int) (e : Ending) (w' : World) : Prop :=
  ∃ wa wb wc wd, e = .returned (.int .i64 (k + n1 + n2 + n3 + n4 + n5)) ∧ Own w' 0 A1 c1 (marks (k) n1) ∧ Own w' 0 A2 c2 (marks (k + n1) n2) ∧ Own w' 0 A3 c3 (marks (k + n1 + n2) n3) ∧ Own w' 0 A4 c4 (marks (k + n1 + n2 + n3) n4) ∧ Own w' 0 A5 c5 (marks (k + n1 + n2 + n3 + n4) n5) ∧ Wrote w wa A1 ∧ Wrote wa wb A2 ∧ Wrote wb wc A3 ∧ Wrote wc wd A4 ∧ Wrote wd w' A5
end Go.Proofs.Ytnihnobnhihoiaa
