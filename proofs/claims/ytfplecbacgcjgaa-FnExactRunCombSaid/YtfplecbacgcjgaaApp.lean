/- The law of append of one int to a list that the call owns, as the walk meets it: a new block with the int, then the append. -/
import Derived.Test.YtfplecbacgcjgaaSlicesFn
import Derived.OwnWalk
namespace Go.Proofs.Ytfplecbacgcjgaa
open Go.RowKit
set_option linter.unusedVariables false
/-- Where a list lies behind an append: where it lay, or in a block from n on. -/
def Moved (A A' : Option Addr) (n : Nat) : Prop := row A' = row A ∨ Lo A' n
theorem int_row : ∃ i : TypeInfo, Try.prog.info? 3 = some i ∧ i.zero = some (.int .i64 0) ∧ i.size = 1 ∧ i.bytes = 8 := by
  obtain ⟨i0, hi, hz0, hz1, hz2⟩ := info_parts intInfo
  exact ⟨i0, hi, hz0, hz1, hz2⟩
theorem app_new {w : World} {ops : Array Oper} {rest : List Oper} {o : Oper} {a : Act} {Q : Exit → Act → World → Prop} (hgd : o.guard = none) (s x : Operand)
    (ho : o.op = .call { callee := .builtin .append, args := #[s, x], argTypes := #[31, 31] })
    (B : Nat) (A : Option Addr) (c n : Nat) (xs : List Int) (v : Int) (hl : xs.length = n) (hs : a.eval s = .slice A n c) (hown : Own w B A c xs) (hx : a.eval x = .slice (some ⟨w.heap.size, 0, none⟩) 1 1)
    (hn : n ≤ 1099511627776) (hB : B ≤ w.heap.size)
    (h : ∀ A' c' w', Own w' B A' c' (xs ++ [v]) → Wrote w w' A → Moved A A' w.heap.size → wpList Try.prog ops Q rest (a.put o.dst (.slice A' (n + 1) c')) w') :
    wpList Try.prog ops Q (o :: rest) a (w.alloc (.cells #[.int .i64 v] 3)) := by
  subst hl
  obtain ⟨i0, hi, hz0, hz1, hz2⟩ := int_row
  have hA : w.grownBy (w.alloc (.cells #[.int .i64 v] 3)) (row A) := World.grownBy_alloc w _ _
  have hown' : Own (w.alloc (.cells #[.int .i64 v] 3)) B A c xs := World.ownsRow.alloc hown _
  refine wpList_append_own_at _ hgd s x 31 ho B 3 i0 (.int .i64 0) 1 8 Try.underlying31 hi hz0 hz1 hz2 rfl (by decide) _ xs.length (ints xs) hs hown' ⟨w.heap.size, 0, none⟩ 1 1 [.int .i64 v] hx rfl (cell_one_new _ _ _) (by simp [Value.oneCell']) (by simp only [maxLen]; omega) (by omega) (by simp; omega) ?_
  intro v' w' h1 h2 _ h3
  obtain ⟨A', c', rfl, h4⟩ := own_of_row (xs := xs ++ [v]) h1 (by simp [ints]) (by simp)
  have e : (Value.slice A xs.length c).ownBlock = row A := by cases A <;> rfl
  rw [e] at h2 h3
  refine h A' c' w' h4 (hA.trans h2) ?_
  have e' : (Value.slice A' (xs.length + 1) c').ownBlock = row A' := by cases A' <;> rfl
  rw [e'] at h3
  rcases h3 with h3 | h3
  · exact .inl h3
  · refine .inr fun a ha => ?_
    subst ha
    simp [row] at h3
    omega
/-- The same where what is gathered is the head of a known list. -/
theorem app_take {w : World} {ops : Array Oper} {rest : List Oper} {o : Oper} {a : Act} {Q : Exit → Act → World → Prop} (hgd : o.guard = none) (s x : Operand)
    (ho : o.op = .call { callee := .builtin .append, args := #[s, x], argTypes := #[31, 31] })
    (B : Nat) (A : Option Addr) (c k : Nat) (R : List Int) (v : Int) (hk : k < R.length) (hv : R[k] = v) (hs : a.eval s = .slice A k c) (hown : Own w B A c (R.take k)) (hx : a.eval x = .slice (some ⟨w.heap.size, 0, none⟩) 1 1)
    (hn : k ≤ 1099511627776) (hB : B ≤ w.heap.size)
    (h : ∀ A' c' w', Own w' B A' c' (R.take (k + 1)) → Wrote w w' A → Moved A A' w.heap.size → wpList Try.prog ops Q rest (a.put o.dst (.slice A' (k + 1) c')) w') :
    wpList Try.prog ops Q (o :: rest) a (w.alloc (.cells #[.int .i64 v] 3)) :=
  app_new hgd s x ho B A c k (R.take k) v (by rw [List.length_take]; omega) hs hown hx hn hB fun A' c' w' h1 h2 h3 => h A' c' w' (by rw [List.take_succ_eq_append_getElem hk, hv]; exact h1) h2 h3
def RetLB (w : World) (x : List Int × Bool) (e : Ending) (w' : World) : Prop := ∃ A c, e = .returned (.tuple #[.slice A x.1.length c, .bool x.2]) ∧ Own w' w.heap.size A c x.1 ∧ Below w.heap.size w w'
theorem blk_wrote_hi {w w' : World} {g n : Nat} {t : TypeId} {cs : Array Value} {A : Option Addr} (h : Blk w g t cs) (hw : Wrote w w' A) (hl : Hi A n) (hg : n ≤ g) : Blk w' g t cs :=
  h.grown hw fun e => by
    cases A with
    | none => simp [row] at e
    | some a => simp [row] at e; have := hl a rfl; omega
/-- 'out := []int{}': an empty row. -/
theorem own_empty (w : World) (B : Nat) (hB : B ≤ w.heap.size) : Own (w.alloc (.cells #[] 3)) B (some ⟨w.heap.size, 0, none⟩) 0 [] :=
  World.ownsRow_made w #[] 0 hB (by simp [maxLen]) rfl
theorem below_app {w0 w w' : World} {A : Option Addr} {B c : Nat} {xs : List Int} (hb : Below B w0 w) (hw : Wrote w w' A) (hown : Own w B A c xs) (hB : B ≤ w.heap.size) : Below B w0 w' :=
  hb.trans (below_wrote hw hB (own_lo hown))
end Go.Proofs.Ytfplecbacgcjgaa
