/- Words for slices of ints: one that reads as a list, one that the call owns; their laws over calls that keep all that there was. -/
import Derived.Test.YtfplecbacgcjgaaBase
import Derived.Maps.AppendAt
import Derived.Laws.OwnMore
import Derived.Deep.Draws
import Derived.Deep.OwnRows
namespace Go.Proofs.Ytfplecbacgcjgaa
open Go.RowKit
set_option linter.unusedVariables false

theorem getD_at {xs : List Int} {k : Nat} (h : k < xs.length) : xs.getD k 0 = xs[k] := by simp [h]
def ints (xs : List Int) : List Value := xs.map (Value.int .i64)
theorem ints_length (xs : List Int) : (ints xs).length = xs.length := by simp [ints]
theorem ints_append (xs ys : List Int) : ints (xs ++ ys) = ints xs ++ ints ys := by simp [ints]
theorem ints_get {xs : List Int} {j : Nat} (h : j < xs.length) : (ints xs)[j]? = some (.int .i64 (xs.getD j 0)) := by
  simp [ints, h]
theorem ints_set (xs : List Int) (j : Nat) (v : Int) : (ints xs).set j (.int .i64 v) = ints (xs.set j v) := by simp [ints, List.map_set]
theorem ints_replicate (n : Nat) : List.replicate n (Value.int .i64 0) = ints (List.replicate n 0) := by simp [ints]

/-- The slice '.slice A xs.length c' begins at the head of a row, in a block from B on, that is not frozen; it reads as xs. -/
def Own (w : World) (B : Nat) (A : Option Addr) (c : Nat) (xs : List Int) : Prop := w.ownsRow B 3 1 (.slice A xs.length c) xs.length (ints xs)

theorem below_drewN' {B : Nat} {a w : World} (h : Below B a w) (n : Nat) : Below B a (w.drewN n) := ⟨h.os, h.tape, h.output, h.size, h.block⟩
section
variable {w w' : World} {B B' : Nat} {A : Option Addr} {c : Nat} {xs ys : List Int}
theorem block_add (a : Addr) (n : Nat) : (a.add n).block = a.block := by unfold Addr.add; split <;> rfl

theorem Rd.keep (h : Rd w B A xs) (hk : ∀ p : Addr, p.block < B → w'.cell? p = w.cell? p) : Rd w' B A xs := fun h0 => by
  obtain ⟨ad, e, hb, hc⟩ := h h0
  exact ⟨ad, e, hb, fun j hj => (hk _ (by rw [block_add]; exact hb)).trans (hc j hj)⟩
theorem Rd.more (h : Rd w B A xs) (hB : B ≤ B') : Rd w B' A xs := fun h0 => by
  obtain ⟨ad, e, hb, hc⟩ := h h0
  exact ⟨ad, e, by omega, hc⟩
theorem Rd.below (h : Rd w B A xs) (hb : Below B w w') : Rd w' B A xs := h.keep fun _ hp => hb.cell hp
/-- Behind a call that keeps all that there was. -/
theorem Rd.past (h : Rd w w.heap.size A xs) (hb : Below w.heap.size w w') : Rd w' w'.heap.size A xs := (h.below hb).more hb.size
theorem Rd.nil : Rd w B A [] := fun h => absurd h (by simp)
theorem Rd.at_ {k : Nat} (h : Rd w B A xs) (hk : k < xs.length) : ∃ ad, A = some ad ∧ ad.block < B ∧ ∀ j, j < xs.length → w.cell? (ad.add j) = some (.int .i64 (xs.getD j 0)) := h (by omega)
theorem Rd.grown (h : Rd w B A xs) {row : Option Nat} (hg : w.grownBy w' row) (hB : B ≤ w.heap.size) (hr : ∀ a, A = some a → some a.block ≠ row) : Rd w' B A xs := fun h0 => by
  obtain ⟨ad, e, hb, hc⟩ := h h0
  refine ⟨ad, e, hb, fun j hj => ?_⟩
  rw [← hc j hj]
  exact World.cell?_of_block (hg.block _ (by rw [block_add]; omega) (by rw [block_add]; exact hr ad e))

theorem own_rd (h : Own w B A c xs) : Rd w w.heap.size A xs := fun h0 => by
  rcases h.2 with ⟨hv, hn⟩ | ⟨g, cap, cur, hv, hb, hh, _⟩
  · omega
  · injection hv with h1 h2 h3
    subst h1
    refine ⟨_, rfl, (Array.getElem?_eq_some_iff.1 hh).1, fun j hj => ?_⟩
    exact World.ownsRow.cells h rfl j _ (ints_get hj)
theorem own_nil (w : World) (B : Nat) : Own w B none 0 [] := World.ownsRow_nil w B _ _
theorem own_below (h : Own w B A c xs) {B' : Nat} (hb : Below B' w w') (hlt : ∀ a, A = some a → a.block < B') : Own w' B A c xs := by
  obtain ⟨h1, h2⟩ := h
  refine ⟨h1, ?_⟩
  rcases h2 with h2 | ⟨g, cap, cur, hv, hg, hh, r⟩
  · exact Or.inl h2
  · injection hv with e1 e2 e3
    exact Or.inr ⟨g, cap, cur, by rw [e1, e2, e3], hg, (hb.block g (hlt _ e1)).trans hh, r⟩
theorem own_lt (h : Own w B A c xs) : ∀ a, A = some a → B ≤ a.block ∧ a.block < w.heap.size := fun a e => by
  subst e
  exact World.ownsRow.lt h _ rfl
theorem own_past (h : Own w B A c xs) (hb : Below w.heap.size w w') : Own w' B A c xs := own_below h hb fun a e => (own_lt h a e).2
theorem own_mono (h : Own w B A c xs) (hB : B' ≤ B) : Own w B' A c xs := by
  obtain ⟨h1, h2⟩ := h
  refine ⟨h1, ?_⟩
  rcases h2 with h2 | ⟨g, cap, cur, hv, hg, r⟩
  · exact Or.inl h2
  · exact Or.inr ⟨g, cap, cur, hv, by omega, r⟩
theorem own_cap (h : Own w B A c xs) : xs.length ≤ c ∧ c ≤ maxLen := by
  rcases h.2 with ⟨hv, hn⟩ | ⟨g, cap, cur, hv, _, _, h1, h2, _⟩
  · injection hv with _ h2 h3
    subst h3
    exact ⟨by omega, by simp [maxLen]⟩
  · injection hv with _ _ h3
    omega
theorem own_grown (h : Own w B A c xs) {row : Option Nat} (hg : w.grownBy w' row) (hr : ∀ a, A = some a → some a.block ≠ row) : Own w' B A c xs := by
  obtain ⟨h1, h2⟩ := h
  refine ⟨h1, ?_⟩
  rcases h2 with h2 | ⟨g, cap, cur, hv, hgg, hh, r⟩
  · exact Or.inl h2
  · have hlt := (Array.getElem?_eq_some_iff.1 hh).1
    injection hv with e1 e2 e3
    exact Or.inr ⟨g, cap, cur, by rw [e1, e2, e3], hgg, (hg.block g hlt (hr _ e1)).trans hh, r⟩
/-- What the laws on append and make leave, in my words. -/
theorem own_of_row {v : Value} {n : Nat} {es : List Value} (h : w.ownsRow B 3 1 v n es) (he : es = ints xs) (hn : n = xs.length) : ∃ A c, v = .slice A n c ∧ Own w B A c xs := by
  subst he; subst hn
  rcases h.2 with ⟨rfl, h0⟩ | ⟨g, cap, cur, rfl, _⟩
  · refine ⟨none, 0, by rw [h0], ?_⟩
    have : xs = [] := List.eq_nil_of_length_eq_zero h0
    subst this
    exact own_nil w B
  · exact ⟨_, _, rfl, h⟩
theorem own_head {k : Nat} (h : Own w B A c xs) (hk : k < xs.length) : ∃ g, A = some ⟨g, 0, none⟩ ∧ B ≤ g ∧ g < w.heap.size := by
  rcases h.2 with ⟨hv, hn⟩ | ⟨g, cap, cur, hv, hb, hh, _⟩
  · omega
  · injection hv with h1
    exact ⟨g, h1, hb, (Array.getElem?_eq_some_iff.1 hh).1⟩
theorem own_cell {g j : Nat} (h : Own w B (some ⟨g, 0, none⟩) c xs) (hj : j < xs.length) : w.cell? ⟨g, j, none⟩ = some (.int .i64 (xs.getD j 0)) :=
  (World.ownsRow.cellAt h j (by omega)).trans (ints_get hj)
theorem own_frozen {g : Nat} (h : Own w B (some ⟨g, 0, none⟩) c xs) (j : Nat) : w.frozen? ⟨g, j, none⟩ = false := World.ownsRow.frozenAt h j
theorem own_set {g : Nat} (h : Own w B (some ⟨g, 0, none⟩) c xs) (j : Nat) (v : Int) : Own (w.setCell ⟨g, j, none⟩ (.int .i64 v)) B (some ⟨g, 0, none⟩) c (xs.set j v) := by
  have := (World.ownsRow.stored h j (.int .i64 v)).1
  rw [ints_set] at this
  unfold Own
  rw [List.length_set]
  exact this
/-- A new row that make lays. -/
theorem own_made (w : World) (n : Nat) (hB : B ≤ w.heap.size) (hn : n ≤ maxLen) : Own (w.alloc (.cells (madeCells #[.int .i64 0] n) 3)) B (some ⟨w.heap.size, 0, none⟩) n (List.replicate n 0) := by
  have e := ints_replicate n
  have := World.ownsRow_lit (base := B) (e := 3) (size := 1) w (madeCells #[.int .i64 0] n) n hB hn (by simp [size_madeCells])
  unfold Own
  rw [List.length_replicate, ← e, ← toList_madeCells_one]
  exact this
/-- A new row that is written out. -/
theorem own_cells (w : World) (cs : Array Value) (hB : B ≤ w.heap.size) (h : cs.toList = ints xs) (hn : xs.length ≤ maxLen) : Own (w.alloc (.cells cs 3)) B (some ⟨w.heap.size, 0, none⟩) xs.length xs := by
  have hs : cs.size = xs.length * 1 := by rw [← Array.length_toList, h, ints_length]; omega
  have := World.ownsRow_lit (base := B) (e := 3) (size := 1) w cs xs.length hB hn hs
  unfold Own
  rw [← h]
  exact this
end
theorem intInfo : (Try.prog.info? 3).map (fun i => (i.zero, i.size, i.bytes)) = some (some (.int .i64 0), 1, 8) := by kernel_rfl

/-- Two slices lie apart. -/
def Apart (A A' : Option Addr) : Prop := ∀ a a', A = some a → A' = some a' → a.block ≠ a'.block
def row (A : Option Addr) : Option Nat := A.map (·.block)
/-- The world has grown, and of what there was at most the block of A has turned. -/
def Wrote (w w' : World) (A : Option Addr) : Prop := w.grownBy w' (row A)
theorem apart_row {A A' : Option Addr} (h : Apart A A') : ∀ a, A = some a → A' ≠ none → some a.block ≠ row A' := by
  intro a e hn e'
  cases A' with
  | none => exact hn rfl
  | some a' => exact h a a' e rfl (by simpa [row] using e')
theorem own_wrote {w w' : World} {B c : Nat} {A A' : Option Addr} {xs : List Int} (h : Own w B A c xs) (hw : Wrote w w' A') (ha : Apart A A') : Own w' B A c xs :=
  own_grown h hw fun a e => by
    cases A' with
    | none => simp [row]
    | some a' => exact apart_row ha a e (by simp)
theorem rd_wrote {w w' : World} {A A' : Option Addr} {xs : List Int} (h : Rd w w.heap.size A xs) (hw : Wrote w w' A') (ha : Apart A A') : Rd w' w'.heap.size A xs :=
  (h.grown hw (Nat.le_refl _) fun a e => by
    cases A' with
    | none => simp [row]
    | some a' => exact apart_row ha a e (by simp)).more hw.size
theorem below_wrote {w w' : World} {B : Nat} {A : Option Addr} (hw : Wrote w w' A) (hB : B ≤ w.heap.size) (ha : ∀ a, A = some a → B ≤ a.block) : Below B w w' :=
  (Below.refl _ _).grown hw hB fun k hk => by
    cases A with
    | none => simp [row] at hk
    | some a => simp [row] at hk; subst hk; exact ha a rfl
def Lo (A : Option Addr) (n : Nat) : Prop := ∀ a, A = some a → n ≤ a.block
def Hi (A : Option Addr) (n : Nat) : Prop := ∀ a, A = some a → a.block < n
theorem own_lo {w : World} {B c : Nat} {A : Option Addr} {xs : List Int} (h : Own w B A c xs) : Lo A B := fun a e => (own_lt h a e).1
theorem own_hi {w : World} {B c : Nat} {A : Option Addr} {xs : List Int} (h : Own w B A c xs) : Hi A w.heap.size := fun a e => (own_lt h a e).2
theorem lo_le {A : Option Addr} {n m : Nat} (h : Lo A n) (hm : m ≤ n) : Lo A m := fun a e => Nat.le_trans hm (h a e)
theorem apart_lt {A A' : Option Addr} {n m : Nat} (h : Hi A n) (k : Lo A' m) (hm : n ≤ m) : Apart A A' := fun a a' e e' => by have := h a e; have := k a' e'; omega
theorem apart_gt {A A' : Option Addr} {n m : Nat} (h : Lo A n) (k : Hi A' m) (hm : m ≤ n) : Apart A A' := fun a a' e e' => by have := h a e; have := k a' e'; omega
theorem apart_symm {A A' : Option Addr} (h : Apart A A') : Apart A' A := fun a a' e e' => Ne.symm (h a' a e' e)
theorem blk_wrote {w w' : World} {g n : Nat} {t : TypeId} {cs : Array Value} {A : Option Addr} (h : Blk w g t cs) (hw : Wrote w w' A) (hl : Lo A n) (hg : g < n) : Blk w' g t cs :=
  h.grown hw fun e => by
    cases A with
    | none => simp [row] at e
    | some a => simp [row] at e; have := hl a rfl; omega
end Go.Proofs.Ytfplecbacgcjgaa
