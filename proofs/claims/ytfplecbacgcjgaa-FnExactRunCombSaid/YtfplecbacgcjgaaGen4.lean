/- Contracts of MakeSequence, MakeAccumulator, MakeRests and MakeInputs. -/
import Derived.Test.YtfplecbacgcjgaaGen3
namespace Go.Proofs.Ytfplecbacgcjgaa
open Go.RowKit
set_option linter.unusedVariables false
set_option linter.unusedSimpArgs false
def RetP (P : List Int → Prop) (w : World) (e : Ending) (w' : World) : Prop := ∃ A c xs, e = .returned (.slice A (xs : List Int).length c) ∧ P xs ∧ Own w' w.heap.size A c xs ∧ Below w.heap.size w w'
set_option maxRecDepth 100000 in
theorem MakeSequence_any (A : Option Addr) (c n : Nat) (most size : Int) (w : World) (hr : RdB w w.heap.size A n) (hn : n ≤ 4294967296) (m0 : 0 ≤ most) (m1 : most ≤ 300) (s0 : 0 ≤ size) (s1 : size ≤ 1000000) :
    Calls Try.prog 17 #[.slice A n c, .int .i64 most, .int .i64 size] w (RetP (Small most size) w) := by
  go_enter Try.func17, Try.ntmps17
  go_wp2_with fail
  refine (l01New_any _ _ _ _ hr hn).mono ?_; rintro e w1 ⟨g, rfl, hg, C1, h1⟩
  have hs := h1.size
  go_wp2_with fail
  all_goals
    refine (l1Small_any g _ _ _ C1 (by omega) (by omega) (by omega) (by omega)).mono ?_; rintro e w2 ⟨A2, c2, xs, rfl, hS, O2, C2, T2⟩
    have hB := turn_past h1 T2 h1.size hg
    have hS' : Hid (Small most size xs) := by
      refine ⟨?_, fun x hx => ?_⟩
      · have := hS.1; omega
      · have := hS.2 x hx; omega
    clear hS
    go_wp2_with fail
    go_ret
    exact ⟨A2, c2, xs, rfl, hS'.out, own_mono O2 hs, hB⟩
def RetAcc (w : World) (e : Ending) (w' : World) : Prop := ∃ (o : Nat) (m : Int), e = .returned (.agg #[.int .i64 o, .int .i64 m]) ∧ 1 ≤ o ∧ o ≤ 4 ∧ 2 ≤ m ∧ m ≤ 61 ∧ Below w.heap.size w w'
theorem rests_snoc {m : Int} {xs : List Int} {x : Int} (h : Rests m xs) (h1 : 0 ≤ x) (h2 : x < m) : Rests m (xs ++ [x]) := fun y hy => by
  rw [List.mem_append] at hy
  rcases hy with hy | hy
  · exact h y hy
  · simp at hy; subst hy; exact ⟨h1, h2⟩
end Go.Proofs.Ytfplecbacgcjgaa
