/- Contracts of the laws' own helpers on states of combs. -/
import Derived.Test.YtfplecbacgcjgaaNewComb
namespace Go.Proofs.Ytfplecbacgcjgaa
open Go.RowKit
set_option linter.unusedVariables false
set_option linter.unusedSimpArgs false
theorem wrote_alloc {w w' : World} {o : Obj} {A : Option Addr} (h : Wrote (w.alloc o) w' A) : Wrote w w' A := (World.grownBy_alloc w o _).trans h
theorem eqCombState_same (A A' D D' : Option Addr) (c c' d d' : Nat) (xs ys : List Int) (p : Int) (w : World) (h1 : Rd w w.heap.size A xs) (h2 : Rd w w.heap.size A' ys) (h3 : Rd w w.heap.size D xs) (h4 : Rd w w.heap.size D' ys) (hn : xs.length ≤ 1099511627776) (hn' : ys.length ≤ 1099511627776) :
    Calls Try.prog 35 #[.agg #[.slice A xs.length c, .slice A' ys.length c', .int .i64 p], .agg #[.slice D xs.length d, .slice D' ys.length d', .int .i64 p]] w fun e w' => e = .returned (.bool true) ∧ Below w.heap.size w w' := by
  have Hb : Hid (Below w.heap.size w ((w.alloc (.cells #[.slice A xs.length c, .slice A' ys.length c', .int .i64 p] 35)).alloc (.cells #[.slice D xs.length d, .slice D' ys.length d', .int .i64 p] 35))) := ((Below.refl _ _).alloc (Nat.le_refl _) _).alloc (by simp) _
  have B0 := (Blk.new w 35 #[.slice A xs.length c, .slice A' ys.length c', .int .i64 p]).alloc (.cells #[.slice D xs.length d, .slice D' ys.length d', .int .i64 p] 35)
  have D0 := Blk.new (w.alloc (.cells #[.slice A xs.length c, .slice A' ys.length c', .int .i64 p] 35)) 35 #[.slice D xs.length d, .slice D' ys.length d', .int .i64 p]
  simp only [World.size_alloc] at D0
  go_enter Try.func35, Try.ntmps35
  go_wp2_with fail
  refine (eqIntS_same A D c d xs _ (h1.past Hb.out) (h3.past Hb.out) hn).mono ?_; rintro e w1 ⟨rfl, k1⟩
  have B1 := B0.past k1
  have D1 := D0.past k1
  replace Hb := Lib.hid (thenB Hb.out k1)
  have c1 := B1.cell 1
  have e1 := D1.cell 1
  simp at c1 e1
  clear B0 D0 k1
  go_wp2_with fail
  refine (eqIntS_same A' D' c' d' ys _ (h2.past Hb.out) (h4.past Hb.out) hn').mono ?_; rintro e w2 ⟨rfl, k2⟩
  have B2 := B1.past k2
  have D2 := D1.past k2
  replace Hb := Lib.hid (thenB Hb.out k2)
  clear c1 e1
  have c2 := B2.cell 2
  have e2 := D2.cell 2
  simp at c2 e2
  clear B1 D1 B2 D2 k2
  go_wp2_with fail
  go_ret
  exact ⟨rfl, Hb.out⟩
def RetMark2 (w : World) (A A' : Option Addr) (c c' n n' : Nat) (k : Int) (e : Ending) (w' : World) : Prop :=
  ∃ wm, e = .returned (.int .i64 (k + n + n')) ∧ Own w' 0 A c (marks k n) ∧ Own w' 0 A' c' (marks (k + n) n') ∧ Wrote w wm A ∧ Wrote wm w' A'
theorem markCombState_any (A A' : Option Addr) (B B' c c' : Nat) (xs ys : List Int) (p k : Int) (w : World) (h1 : Own w B A c xs) (h2 : Own w B' A' c' ys) (ha : Apart A A') (hn : xs.length ≤ 1048576) (hn' : ys.length ≤ 1048576) (k1 : 0 ≤ k) (k2 : k ≤ 1099511627776) :
    Calls Try.prog 42 #[.agg #[.slice A xs.length c, .slice A' ys.length c', .int .i64 p], .int .i64 k] w (RetMark2 w A A' c c' xs.length ys.length k) := by
  have Hb : Below w.heap.size w (w.alloc (.cells #[.slice A xs.length c, .slice A' ys.length c', .int .i64 p] 35)) := (Below.refl _ _).alloc (Nat.le_refl _) _
  have B0 := Blk.new w 35 #[.slice A xs.length c, .slice A' ys.length c', .int .i64 p]
  have L1 := own_hi h1
  have L2 := own_hi h2
  have O1 := own_past h1 Hb
  have O2 := own_past h2 Hb
  clear h1 h2 Hb
  go_enter Try.func42, Try.ntmps42
  go_wp2_with fail
  refine (markIntS_any A _ c xs k _ O1 (by omega) (by omega) (by omega)).mono ?_; rintro e w1 ⟨rfl, O1', k1⟩
  replace O2 := own_wrote O2 k1 (apart_symm ha)
  replace B0 := B0.grown k1 (fun e => by
    cases A with
    | none => simp [row] at e
    | some a => simp [row] at e; have := L1 a rfl; omega)
  have c1 := B0.cell 1
  simp at c1
  clear O1
  go_wp2_with fail
  refine (markIntS_any A' _ c' ys _ _ O2 (by omega) (by omega) (by omega)).mono ?_; rintro e w2 ⟨rfl, O2', k2⟩
  replace O1' := own_wrote O1' k2 ha
  go_wp2_with fail
  go_ret
  exact ⟨w1, rfl, O1', O2', wrote_alloc k1, k2⟩
theorem heldCombState_any (A A' : Option Addr) (c c' n n' : Nat) (p k : Int) (w : World) (h1 : Rd w w.heap.size A (marks k n)) (h2 : Rd w w.heap.size A' (marks (k + n) n')) (hn : n ≤ 1048576) (hn' : n' ≤ 1048576) (k1 : 0 ≤ k) (k2 : k ≤ 1099511627776) :
    Calls Try.prog 43 #[.agg #[.slice A n c, .slice A' n' c', .int .i64 p], .int .i64 k] w fun e w' => e = .returned (.int .i64 (k + n + n')) ∧ Below w.heap.size w w' := by
  have Hb : Below w.heap.size w (w.alloc (.cells #[.slice A n c, .slice A' n' c', .int .i64 p] 35)) := (Below.refl _ _).alloc (Nat.le_refl _) _
  have B0 := Blk.new w 35 #[.slice A n c, .slice A' n' c', .int .i64 p]
  have R1 := h1.past Hb
  have R2 := h2.past Hb
  have HB := Lib.hid Hb
  have c1 := B0.cell 1
  simp at c1
  clear h1 h2 Hb B0 c1
  go_enter Try.func43, Try.ntmps43
  go_wp2_with fail
  refine (heldIntS_any A c n k _ R1 (by omega) (by omega) (by omega)).mono ?_; rintro e w1 ⟨rfl, rfl⟩
  go_wp2_with fail
  refine (heldIntS_any A' c' n' _ _ R2 (by omega) (by omega) (by omega)).mono ?_; rintro e w1 ⟨rfl, rfl⟩
  go_wp2_with fail
  go_ret
  exact ⟨rfl, HB.out⟩
end Go.Proofs.Ytfplecbacgcjgaa
