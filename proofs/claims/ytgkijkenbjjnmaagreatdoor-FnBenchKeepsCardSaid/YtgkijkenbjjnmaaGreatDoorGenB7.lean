/- A bench under the cursor: what is known of memory while one is made. (Printed by mkgenb7.py.) -/
import Derived.Test.YtgkijkenbjjnmaaGreatDoorGenB6
namespace Go.Proofs.YtgkijkenbjjnmaaGreatDoor
open Go.RowKit
set_option linter.unusedVariables false
set_option linter.unusedSimpArgs false
/-- The result's block; a modulator's block; its coefficients. -/
structure P7 (w : World) (g b : Nat) (l s : Int) (A : Option Addr) (c : Nat) (x : List Int) (wr : World) : Prop where
  g : Gs w g wr
  r : Blk wr w.heap.size 33 #[.int .i64 0, .int .i64 0, .slice none 0 0, .slice none 0 0, .slice none 0 0, .slice none 0 0, .slice none 0 0]
  m : Blk wr b 27 #[.int .i64 l, .int .i64 s, .slice A x.length c]
  hb : w.heap.size < b
  o : Own wr (w.heap.size + 1) A c x
  n : ∀ a, A = some a → a.block < b
theorem P7.turn {w wr w' : World} {g b : Nat} {l s : Int} {A : Option Addr} {c : Nat} {x : List Int} (h : P7 w g b l s A c x wr) (C : Cur w' g) (T : wr.grownBy w' (some g)) : P7 w g b l s A c x w' :=
  have hl := h.g.lt
  have hb := h.hb
  ⟨h.g.turn C T, blk_turn h.r T (by omega), blk_turn h.m T (by omega), h.hb, own_turn h.o T (by omega), h.n⟩
theorem P7.past {w wr w' : World} {g b : Nat} {l s : Int} {A : Option Addr} {c : Nat} {x : List Int} (h : P7 w g b l s A c x wr) (k : Below wr.heap.size wr w') : P7 w g b l s A c x w' :=
  ⟨h.g.past k, h.r.past k, h.m.past k, h.hb, own_past h.o k, h.n⟩
/-- The result's block; a bench's block, and its five slices. -/
structure E7 (w : World) (g b : Nat) (l s : Int) (A1 : Option Addr) (c1 : Nat) (x1 : List Int) (A2 : Option Addr) (c2 : Nat) (x2 : List Int) (A3 : Option Addr) (c3 : Nat) (x3 : List Int) (A4 : Option Addr) (c4 : Nat) (x4 : List Int) (A5 : Option Addr) (c5 : Nat) (x5 : List Int) (wr : World) : Prop where
  g : Gs w g wr
  r : Blk wr w.heap.size 33 #[.int .i64 0, .int .i64 0, .slice none 0 0, .slice none 0 0, .slice none 0 0, .slice none 0 0, .slice none 0 0]
  m : Blk wr b 33 #[.int .i64 l, .int .i64 s, .slice A1 x1.length c1, .slice A2 x2.length c2, .slice A3 x3.length c3, .slice A4 x4.length c4, .slice A5 x5.length c5]
  hb : w.heap.size < b
  o1 : Own wr (w.heap.size + 1) A1 c1 x1
  o2 : Own wr (w.heap.size + 1) A2 c2 x2
  o3 : Own wr (w.heap.size + 1) A3 c3 x3
  o4 : Own wr (w.heap.size + 1) A4 c4 x4
  o5 : Own wr (w.heap.size + 1) A5 c5 x5
  n1 : ∀ a, A1 = some a → a.block ≠ b
  n2 : ∀ a, A2 = some a → a.block ≠ b
  n3 : ∀ a, A3 = some a → a.block ≠ b
  n4 : ∀ a, A4 = some a → a.block ≠ b
  n5 : ∀ a, A5 = some a → a.block ≠ b
section
variable {w wr w' : World} {g b : Nat} {l s l' s' : Int} {A1 : Option Addr} {c1 : Nat} {x1 : List Int} {A2 : Option Addr} {c2 : Nat} {x2 : List Int} {A3 : Option Addr} {c3 : Nat} {x3 : List Int} {A4 : Option Addr} {c4 : Nat} {x4 : List Int} {A5 : Option Addr} {c5 : Nat} {x5 : List Int} {A : Option Addr} {c : Nat} {x : List Int}
theorem E7.turn (h : E7 w g b l s A1 c1 x1 A2 c2 x2 A3 c3 x3 A4 c4 x4 A5 c5 x5 wr) (C : Cur w' g) (T : wr.grownBy w' (some g)) : E7 w g b l s A1 c1 x1 A2 c2 x2 A3 c3 x3 A4 c4 x4 A5 c5 x5 w' :=
  have hl := h.g.lt
  have hb := h.hb
  ⟨h.g.turn C T, blk_turn h.r T (by omega), blk_turn h.m T (by omega), h.hb, own_turn h.o1 T (by omega), own_turn h.o2 T (by omega), own_turn h.o3 T (by omega), own_turn h.o4 T (by omega), own_turn h.o5 T (by omega), h.n1, h.n2, h.n3, h.n4, h.n5⟩
theorem E7.past (h : E7 w g b l s A1 c1 x1 A2 c2 x2 A3 c3 x3 A4 c4 x4 A5 c5 x5 wr) (k : Below wr.heap.size wr w') : E7 w g b l s A1 c1 x1 A2 c2 x2 A3 c3 x3 A4 c4 x4 A5 c5 x5 w' :=
  ⟨h.g.past k, h.r.past k, h.m.past k, h.hb, own_past h.o1 k, own_past h.o2 k, own_past h.o3 k, own_past h.o4 k, own_past h.o5 k, h.n1, h.n2, h.n3, h.n4, h.n5⟩
theorem E7.fresh (h : E7 w g b l s A1 c1 x1 A2 c2 x2 A3 c3 x3 A4 c4 x4 A5 c5 x5 wr) (o : Own w' wr.heap.size A c x) : Own w' (w.heap.size + 1) A c x ∧ ∀ a, A = some a → a.block ≠ b :=
  have z := h.m.lt
  have z2 := h.r.lt
  ⟨own_mono o (by omega), fun a e => Nat.ne_of_gt (Nat.lt_of_lt_of_le z (own_lo o a e))⟩
theorem E7.set1 (h : E7 w g b l s A1 c1 x1 A2 c2 x2 A3 c3 x3 A4 c4 x4 A5 c5 x5 wr) (o : Own wr (w.heap.size + 1) A c x) (n : ∀ a, A = some a → a.block ≠ b) : E7 w g b l s A c x A2 c2 x2 A3 c3 x3 A4 c4 x4 A5 c5 x5 (wr.setCell ⟨b, 2, none⟩ (.slice A x.length c)) := by
  have T := turn_set (turn_refl wr b) (p := ⟨b, 2, none⟩) rfl (.slice A x.length c)
  have hb := h.hb
  have hm := h.m.set_ 2 (.slice A x.length c)
  exact ⟨h.g.set (b := b) (j := 2) (by omega) (.slice A x.length c), h.r.far (p := ⟨b, 2, none⟩) (show w.heap.size ≠ b by omega) (.slice A x.length c), by simpa using hm, h.hb, own_grown o T (fun a e e' => n a e (Option.some.inj e')), own_grown h.o2 T (fun a e e' => h.n2 a e (Option.some.inj e')), own_grown h.o3 T (fun a e e' => h.n3 a e (Option.some.inj e')), own_grown h.o4 T (fun a e e' => h.n4 a e (Option.some.inj e')), own_grown h.o5 T (fun a e e' => h.n5 a e (Option.some.inj e')), n, h.n2, h.n3, h.n4, h.n5⟩
theorem E7.set2 (h : E7 w g b l s A1 c1 x1 A2 c2 x2 A3 c3 x3 A4 c4 x4 A5 c5 x5 wr) (o : Own wr (w.heap.size + 1) A c x) (n : ∀ a, A = some a → a.block ≠ b) : E7 w g b l s A1 c1 x1 A c x A3 c3 x3 A4 c4 x4 A5 c5 x5 (wr.setCell ⟨b, 3, none⟩ (.slice A x.length c)) := by
  have T := turn_set (turn_refl wr b) (p := ⟨b, 3, none⟩) rfl (.slice A x.length c)
  have hb := h.hb
  have hm := h.m.set_ 3 (.slice A x.length c)
  exact ⟨h.g.set (b := b) (j := 3) (by omega) (.slice A x.length c), h.r.far (p := ⟨b, 3, none⟩) (show w.heap.size ≠ b by omega) (.slice A x.length c), by simpa using hm, h.hb, own_grown h.o1 T (fun a e e' => h.n1 a e (Option.some.inj e')), own_grown o T (fun a e e' => n a e (Option.some.inj e')), own_grown h.o3 T (fun a e e' => h.n3 a e (Option.some.inj e')), own_grown h.o4 T (fun a e e' => h.n4 a e (Option.some.inj e')), own_grown h.o5 T (fun a e e' => h.n5 a e (Option.some.inj e')), h.n1, n, h.n3, h.n4, h.n5⟩
theorem E7.set3 (h : E7 w g b l s A1 c1 x1 A2 c2 x2 A3 c3 x3 A4 c4 x4 A5 c5 x5 wr) (o : Own wr (w.heap.size + 1) A c x) (n : ∀ a, A = some a → a.block ≠ b) : E7 w g b l s A1 c1 x1 A2 c2 x2 A c x A4 c4 x4 A5 c5 x5 (wr.setCell ⟨b, 4, none⟩ (.slice A x.length c)) := by
  have T := turn_set (turn_refl wr b) (p := ⟨b, 4, none⟩) rfl (.slice A x.length c)
  have hb := h.hb
  have hm := h.m.set_ 4 (.slice A x.length c)
  exact ⟨h.g.set (b := b) (j := 4) (by omega) (.slice A x.length c), h.r.far (p := ⟨b, 4, none⟩) (show w.heap.size ≠ b by omega) (.slice A x.length c), by simpa using hm, h.hb, own_grown h.o1 T (fun a e e' => h.n1 a e (Option.some.inj e')), own_grown h.o2 T (fun a e e' => h.n2 a e (Option.some.inj e')), own_grown o T (fun a e e' => n a e (Option.some.inj e')), own_grown h.o4 T (fun a e e' => h.n4 a e (Option.some.inj e')), own_grown h.o5 T (fun a e e' => h.n5 a e (Option.some.inj e')), h.n1, h.n2, n, h.n4, h.n5⟩
theorem E7.set4 (h : E7 w g b l s A1 c1 x1 A2 c2 x2 A3 c3 x3 A4 c4 x4 A5 c5 x5 wr) (o : Own wr (w.heap.size + 1) A c x) (n : ∀ a, A = some a → a.block ≠ b) : E7 w g b l s A1 c1 x1 A2 c2 x2 A3 c3 x3 A c x A5 c5 x5 (wr.setCell ⟨b, 5, none⟩ (.slice A x.length c)) := by
  have T := turn_set (turn_refl wr b) (p := ⟨b, 5, none⟩) rfl (.slice A x.length c)
  have hb := h.hb
  have hm := h.m.set_ 5 (.slice A x.length c)
  exact ⟨h.g.set (b := b) (j := 5) (by omega) (.slice A x.length c), h.r.far (p := ⟨b, 5, none⟩) (show w.heap.size ≠ b by omega) (.slice A x.length c), by simpa using hm, h.hb, own_grown h.o1 T (fun a e e' => h.n1 a e (Option.some.inj e')), own_grown h.o2 T (fun a e e' => h.n2 a e (Option.some.inj e')), own_grown h.o3 T (fun a e e' => h.n3 a e (Option.some.inj e')), own_grown o T (fun a e e' => n a e (Option.some.inj e')), own_grown h.o5 T (fun a e e' => h.n5 a e (Option.some.inj e')), h.n1, h.n2, h.n3, n, h.n5⟩
theorem E7.set5 (h : E7 w g b l s A1 c1 x1 A2 c2 x2 A3 c3 x3 A4 c4 x4 A5 c5 x5 wr) (o : Own wr (w.heap.size + 1) A c x) (n : ∀ a, A = some a → a.block ≠ b) : E7 w g b l s A1 c1 x1 A2 c2 x2 A3 c3 x3 A4 c4 x4 A c x (wr.setCell ⟨b, 6, none⟩ (.slice A x.length c)) := by
  have T := turn_set (turn_refl wr b) (p := ⟨b, 6, none⟩) rfl (.slice A x.length c)
  have hb := h.hb
  have hm := h.m.set_ 6 (.slice A x.length c)
  exact ⟨h.g.set (b := b) (j := 6) (by omega) (.slice A x.length c), h.r.far (p := ⟨b, 6, none⟩) (show w.heap.size ≠ b by omega) (.slice A x.length c), by simpa using hm, h.hb, own_grown h.o1 T (fun a e e' => h.n1 a e (Option.some.inj e')), own_grown h.o2 T (fun a e e' => h.n2 a e (Option.some.inj e')), own_grown h.o3 T (fun a e e' => h.n3 a e (Option.some.inj e')), own_grown h.o4 T (fun a e e' => h.n4 a e (Option.some.inj e')), own_grown o T (fun a e e' => n a e (Option.some.inj e')), h.n1, h.n2, h.n3, h.n4, n⟩
theorem E7.get (h : E7 w g b l s A1 c1 x1 A2 c2 x2 A3 c3 x3 A4 c4 x4 A5 c5 x5 wr) : wr.cell? ⟨b, 0, none⟩ = some (.int .i64 l) ∧ wr.cell? ⟨b, 1, none⟩ = some (.int .i64 s) ∧ wr.cell? ⟨b, 2, none⟩ = some (.slice A1 x1.length c1) ∧ wr.cell? ⟨b, 3, none⟩ = some (.slice A2 x2.length c2) ∧ wr.cell? ⟨b, 4, none⟩ = some (.slice A3 x3.length c3) ∧ wr.cell? ⟨b, 5, none⟩ = some (.slice A4 x4.length c4) ∧ wr.cell? ⟨b, 6, none⟩ = some (.slice A5 x5.length c5) := by
  have q0 := h.m.cell 0
  have q1 := h.m.cell 1
  have q2 := h.m.cell 2
  have q3 := h.m.cell 3
  have q4 := h.m.cell 4
  have q5 := h.m.cell 5
  have q6 := h.m.cell 6
  simp at q0 q1 q2 q3 q4 q5 q6
  exact ⟨q0, q1, q2, q3, q4, q5, q6⟩
theorem E7.getF (h : E7 w g b l s A1 c1 x1 A2 c2 x2 A3 c3 x3 A4 c4 x4 A5 c5 x5 wr) : wr.frozen? ⟨b, 0, none⟩ = false ∧ wr.frozen? ⟨b, 1, none⟩ = false ∧ wr.frozen? ⟨b, 2, none⟩ = false ∧ wr.frozen? ⟨b, 3, none⟩ = false ∧ wr.frozen? ⟨b, 4, none⟩ = false ∧ wr.frozen? ⟨b, 5, none⟩ = false ∧ wr.frozen? ⟨b, 6, none⟩ = false := ⟨h.m.frozen 0, h.m.frozen 1, h.m.frozen 2, h.m.frozen 3, h.m.frozen 4, h.m.frozen 5, h.m.frozen 6⟩
theorem E7.res (h : E7 w g b l s A1 c1 x1 A2 c2 x2 A3 c3 x3 A4 c4 x4 A5 c5 x5 wr) : wr.cell? ⟨w.heap.size, 0, none⟩ = some (.int .i64 0) ∧ wr.cell? ⟨w.heap.size, 1, none⟩ = some (.int .i64 0) ∧ wr.cell? ⟨w.heap.size, 2, none⟩ = some (.slice none 0 0) ∧ wr.cell? ⟨w.heap.size, 3, none⟩ = some (.slice none 0 0) ∧ wr.cell? ⟨w.heap.size, 4, none⟩ = some (.slice none 0 0) ∧ wr.cell? ⟨w.heap.size, 5, none⟩ = some (.slice none 0 0) ∧ wr.cell? ⟨w.heap.size, 6, none⟩ = some (.slice none 0 0) := by
  have q0 := h.r.cell 0
  have q1 := h.r.cell 1
  have q2 := h.r.cell 2
  have q3 := h.r.cell 3
  have q4 := h.r.cell 4
  have q5 := h.r.cell 5
  have q6 := h.r.cell 6
  simp at q0 q1 q2 q3 q4 q5 q6
  exact ⟨q0, q1, q2, q3, q4, q5, q6⟩
theorem E7.resF (h : E7 w g b l s A1 c1 x1 A2 c2 x2 A3 c3 x3 A4 c4 x4 A5 c5 x5 wr) : wr.frozen? ⟨w.heap.size, 0, none⟩ = false ∧ wr.frozen? ⟨w.heap.size, 1, none⟩ = false ∧ wr.frozen? ⟨w.heap.size, 2, none⟩ = false ∧ wr.frozen? ⟨w.heap.size, 3, none⟩ = false ∧ wr.frozen? ⟨w.heap.size, 4, none⟩ = false ∧ wr.frozen? ⟨w.heap.size, 5, none⟩ = false ∧ wr.frozen? ⟨w.heap.size, 6, none⟩ = false := ⟨h.r.frozen 0, h.r.frozen 1, h.r.frozen 2, h.r.frozen 3, h.r.frozen 4, h.r.frozen 5, h.r.frozen 6⟩
end
/-- A bench, whose lists are short. -/
def RetB7 (g : Nat) (w : World) (e : Ending) (w' : World) : Prop := ∃ (l s : Int) (A1 : Option Addr) (c1 : Nat) (x1 : List Int) (A2 : Option Addr) (c2 : Nat) (x2 : List Int) (A3 : Option Addr) (c3 : Nat) (x3 : List Int) (A4 : Option Addr) (c4 : Nat) (x4 : List Int) (A5 : Option Addr) (c5 : Nat) (x5 : List Int), e = .returned (.agg #[.int .i64 l, .int .i64 s, .slice A1 x1.length c1, .slice A2 x2.length c2, .slice A3 x3.length c3, .slice A4 x4.length c4, .slice A5 x5.length c5]) ∧ (x1.length ≤ 1100 ∧ x2.length ≤ 1100 ∧ x3.length ≤ 1100 ∧ x4.length ≤ 1100 ∧ x5.length ≤ 1100) ∧ Own w' w.heap.size A1 c1 x1 ∧ Own w' w.heap.size A2 c2 x2 ∧ Own w' w.heap.size A3 c3 x3 ∧ Own w' w.heap.size A4 c4 x4 ∧ Own w' w.heap.size A5 c5 x5 ∧ Cur w' g ∧ w.grownBy w' (some g)
set_option maxHeartbeats 1000000 in
theorem E7.done {w wr : World} {g b : Nat} {l s : Int} {A1 : Option Addr} {c1 : Nat} {x1 : List Int} {A2 : Option Addr} {c2 : Nat} {x2 : List Int} {A3 : Option Addr} {c3 : Nat} {x3 : List Int} {A4 : Option Addr} {c4 : Nat} {x4 : List Int} {A5 : Option Addr} {c5 : Nat} {x5 : List Int} (h : E7 w g b l s A1 c1 x1 A2 c2 x2 A3 c3 x3 A4 c4 x4 A5 c5 x5 wr) (hn : x1.length ≤ 1100 ∧ x2.length ≤ 1100 ∧ x3.length ≤ 1100 ∧ x4.length ≤ 1100 ∧ x5.length ≤ 1100) : (((((((wr.setCell ⟨w.heap.size, 0, none⟩ (.int .i64 l)).setCell ⟨w.heap.size, 1, none⟩ (.int .i64 s)).setCell ⟨w.heap.size, 2, none⟩ (.slice A1 x1.length c1)).setCell ⟨w.heap.size, 3, none⟩ (.slice A2 x2.length c2)).setCell ⟨w.heap.size, 4, none⟩ (.slice A3 x3.length c3)).setCell ⟨w.heap.size, 5, none⟩ (.slice A4 x4.length c4)).setCell ⟨w.heap.size, 6, none⟩ (.slice A5 x5.length c5)).cell? ⟨w.heap.size, 0, none⟩ = some (.int .i64 l) ∧ (((((((wr.setCell ⟨w.heap.size, 0, none⟩ (.int .i64 l)).setCell ⟨w.heap.size, 1, none⟩ (.int .i64 s)).setCell ⟨w.heap.size, 2, none⟩ (.slice A1 x1.length c1)).setCell ⟨w.heap.size, 3, none⟩ (.slice A2 x2.length c2)).setCell ⟨w.heap.size, 4, none⟩ (.slice A3 x3.length c3)).setCell ⟨w.heap.size, 5, none⟩ (.slice A4 x4.length c4)).setCell ⟨w.heap.size, 6, none⟩ (.slice A5 x5.length c5)).cell? ⟨w.heap.size, 1, none⟩ = some (.int .i64 s) ∧ (((((((wr.setCell ⟨w.heap.size, 0, none⟩ (.int .i64 l)).setCell ⟨w.heap.size, 1, none⟩ (.int .i64 s)).setCell ⟨w.heap.size, 2, none⟩ (.slice A1 x1.length c1)).setCell ⟨w.heap.size, 3, none⟩ (.slice A2 x2.length c2)).setCell ⟨w.heap.size, 4, none⟩ (.slice A3 x3.length c3)).setCell ⟨w.heap.size, 5, none⟩ (.slice A4 x4.length c4)).setCell ⟨w.heap.size, 6, none⟩ (.slice A5 x5.length c5)).cell? ⟨w.heap.size, 2, none⟩ = some (.slice A1 x1.length c1) ∧ (((((((wr.setCell ⟨w.heap.size, 0, none⟩ (.int .i64 l)).setCell ⟨w.heap.size, 1, none⟩ (.int .i64 s)).setCell ⟨w.heap.size, 2, none⟩ (.slice A1 x1.length c1)).setCell ⟨w.heap.size, 3, none⟩ (.slice A2 x2.length c2)).setCell ⟨w.heap.size, 4, none⟩ (.slice A3 x3.length c3)).setCell ⟨w.heap.size, 5, none⟩ (.slice A4 x4.length c4)).setCell ⟨w.heap.size, 6, none⟩ (.slice A5 x5.length c5)).cell? ⟨w.heap.size, 3, none⟩ = some (.slice A2 x2.length c2) ∧ (((((((wr.setCell ⟨w.heap.size, 0, none⟩ (.int .i64 l)).setCell ⟨w.heap.size, 1, none⟩ (.int .i64 s)).setCell ⟨w.heap.size, 2, none⟩ (.slice A1 x1.length c1)).setCell ⟨w.heap.size, 3, none⟩ (.slice A2 x2.length c2)).setCell ⟨w.heap.size, 4, none⟩ (.slice A3 x3.length c3)).setCell ⟨w.heap.size, 5, none⟩ (.slice A4 x4.length c4)).setCell ⟨w.heap.size, 6, none⟩ (.slice A5 x5.length c5)).cell? ⟨w.heap.size, 4, none⟩ = some (.slice A3 x3.length c3) ∧ (((((((wr.setCell ⟨w.heap.size, 0, none⟩ (.int .i64 l)).setCell ⟨w.heap.size, 1, none⟩ (.int .i64 s)).setCell ⟨w.heap.size, 2, none⟩ (.slice A1 x1.length c1)).setCell ⟨w.heap.size, 3, none⟩ (.slice A2 x2.length c2)).setCell ⟨w.heap.size, 4, none⟩ (.slice A3 x3.length c3)).setCell ⟨w.heap.size, 5, none⟩ (.slice A4 x4.length c4)).setCell ⟨w.heap.size, 6, none⟩ (.slice A5 x5.length c5)).cell? ⟨w.heap.size, 5, none⟩ = some (.slice A4 x4.length c4) ∧ (((((((wr.setCell ⟨w.heap.size, 0, none⟩ (.int .i64 l)).setCell ⟨w.heap.size, 1, none⟩ (.int .i64 s)).setCell ⟨w.heap.size, 2, none⟩ (.slice A1 x1.length c1)).setCell ⟨w.heap.size, 3, none⟩ (.slice A2 x2.length c2)).setCell ⟨w.heap.size, 4, none⟩ (.slice A3 x3.length c3)).setCell ⟨w.heap.size, 5, none⟩ (.slice A4 x4.length c4)).setCell ⟨w.heap.size, 6, none⟩ (.slice A5 x5.length c5)).cell? ⟨w.heap.size, 6, none⟩ = some (.slice A5 x5.length c5) ∧ RetB7 g w (.returned (.agg #[.int .i64 l, .int .i64 s, .slice A1 x1.length c1, .slice A2 x2.length c2, .slice A3 x3.length c3, .slice A4 x4.length c4, .slice A5 x5.length c5])) (((((((wr.setCell ⟨w.heap.size, 0, none⟩ (.int .i64 l)).setCell ⟨w.heap.size, 1, none⟩ (.int .i64 s)).setCell ⟨w.heap.size, 2, none⟩ (.slice A1 x1.length c1)).setCell ⟨w.heap.size, 3, none⟩ (.slice A2 x2.length c2)).setCell ⟨w.heap.size, 4, none⟩ (.slice A3 x3.length c3)).setCell ⟨w.heap.size, 5, none⟩ (.slice A4 x4.length c4)).setCell ⟨w.heap.size, 6, none⟩ (.slice A5 x5.length c5)) := by
  have B := (((((((h.r.set_ 0 (.int .i64 l)).set_ 1 (.int .i64 s)).set_ 2 (.slice A1 x1.length c1)).set_ 3 (.slice A2 x2.length c2)).set_ 4 (.slice A3 x3.length c3)).set_ 5 (.slice A4 x4.length c4)).set_ 6 (.slice A5 x5.length c5))
  have T := turn_set (turn_set (turn_set (turn_set (turn_set (turn_set (turn_set (turn_refl wr (w.heap.size)) (p := ⟨w.heap.size, 0, none⟩) rfl (.int .i64 l)) (p := ⟨w.heap.size, 1, none⟩) rfl (.int .i64 s)) (p := ⟨w.heap.size, 2, none⟩) rfl (.slice A1 x1.length c1)) (p := ⟨w.heap.size, 3, none⟩) rfl (.slice A2 x2.length c2)) (p := ⟨w.heap.size, 4, none⟩) rfl (.slice A3 x3.length c3)) (p := ⟨w.heap.size, 5, none⟩) rfl (.slice A4 x4.length c4)) (p := ⟨w.heap.size, 6, none⟩) rfl (.slice A5 x5.length c5)
  have d0 := B.cell 0
  have d1 := B.cell 1
  have d2 := B.cell 2
  have d3 := B.cell 3
  have d4 := B.cell 4
  have d5 := B.cell 5
  have d6 := B.cell 6
  simp at d0 d1 d2 d3 d4 d5 d6
  have G := (((((((h.g.set (b := w.heap.size) (j := 0) (Nat.le_refl _) (.int .i64 l)).set (b := w.heap.size) (j := 1) (Nat.le_refl _) (.int .i64 s)).set (b := w.heap.size) (j := 2) (Nat.le_refl _) (.slice A1 x1.length c1)).set (b := w.heap.size) (j := 3) (Nat.le_refl _) (.slice A2 x2.length c2)).set (b := w.heap.size) (j := 4) (Nat.le_refl _) (.slice A3 x3.length c3)).set (b := w.heap.size) (j := 5) (Nat.le_refl _) (.slice A4 x4.length c4)).set (b := w.heap.size) (j := 6) (Nat.le_refl _) (.slice A5 x5.length c5))
  have o1 := own_mono (own_grown h.o1 T (fun a e e' => by have h1 := own_lo h.o1 a e; have h2 := Option.some.inj e'; omega)) (Nat.le_succ w.heap.size)
  have o2 := own_mono (own_grown h.o2 T (fun a e e' => by have h1 := own_lo h.o2 a e; have h2 := Option.some.inj e'; omega)) (Nat.le_succ w.heap.size)
  have o3 := own_mono (own_grown h.o3 T (fun a e e' => by have h1 := own_lo h.o3 a e; have h2 := Option.some.inj e'; omega)) (Nat.le_succ w.heap.size)
  have o4 := own_mono (own_grown h.o4 T (fun a e e' => by have h1 := own_lo h.o4 a e; have h2 := Option.some.inj e'; omega)) (Nat.le_succ w.heap.size)
  have o5 := own_mono (own_grown h.o5 T (fun a e e' => by have h1 := own_lo h.o5 a e; have h2 := Option.some.inj e'; omega)) (Nat.le_succ w.heap.size)
  exact ⟨d0, d1, d2, d3, d4, d5, d6, l, s, A1, c1, x1, A2, c2, x2, A3, c3, x3, A4, c4, x4, A5, c5, x5, rfl, hn, o1, o2, o3, o4, o5, G.cur, G.grown⟩
theorem e7_after {w w6 : World} {g b : Nat} {l s : Int} {A1 : Option Addr} {c1 : Nat} {x1 : List Int} {A2 : Option Addr} {c2 : Nat} {x2 : List Int} {A3 : Option Addr} {c3 : Nat} {x3 : List Int} (h : P7 w g b l s A1 c1 x1 w6) (o2 : Own w6 (w.heap.size + 1) A2 c2 x2) (o3 : Own w6 (w.heap.size + 1) A3 c3 x3) : E7 w g w6.heap.size l s A1 c1 x1 A2 c2 x2 A3 c3 x3 none 0 [] none 0 [] (w6.alloc (.cells #[.int .i64 l, .int .i64 s, .slice A1 x1.length c1, .slice A2 x2.length c2, .slice A3 x3.length c3, .slice none 0 0, .slice none 0 0] 33)) := by
  have bx : Below w6.heap.size w6 (w6.alloc (.cells #[.int .i64 l, .int .i64 s, .slice A1 x1.length c1, .slice A2 x2.length c2, .slice A3 x3.length c3, .slice none 0 0, .slice none 0 0] 33)) := (Below.refl _ _).alloc (Nat.le_refl _) _
  exact ⟨h.g.past bx, h.r.past bx, Blk.new _ _ _, h.r.lt, own_past h.o bx, own_past o2 bx, own_past o3 bx, own_nil _ _, own_nil _ _, fun a e => Nat.ne_of_lt (own_hi h.o a e), fun a e => Nat.ne_of_lt (own_hi o2 a e), fun a e => Nat.ne_of_lt (own_hi o3 a e), (fun a e => by cases e), (fun a e => by cases e)⟩
set_option maxHeartbeats 1000000 in
theorem e7_before {w w6 : World} {g b b4 : Nat} {l s : Int} {A1 : Option Addr} {c1 : Nat} {x1 : List Int} {A2 : Option Addr} {c2 : Nat} {x2 : List Int} {A3 : Option Addr} {c3 : Nat} {x3 : List Int} (h : P7 w g b l s A1 c1 x1 w6) (SX : Blk w6 b4 33 #[.int .i64 0, .int .i64 0, .slice none 0 0, .slice none 0 0, .slice none 0 0, .slice none 0 0, .slice none 0 0]) (hb4 : b < b4) (o2 : Own w6 (w.heap.size + 1) A2 c2 x2) (o3 : Own w6 (w.heap.size + 1) A3 c3 x3) (n2 : ∀ a, A2 = some a → a.block ≠ b4) (n3 : ∀ a, A3 = some a → a.block ≠ b4) : E7 w g b4 l s A1 c1 x1 A2 c2 x2 A3 c3 x3 none 0 [] none 0 [] (((((((w6.setCell ⟨b4, 0, none⟩ (.int .i64 l)).setCell ⟨b4, 1, none⟩ (.int .i64 s)).setCell ⟨b4, 2, none⟩ (.slice A1 x1.length c1)).setCell ⟨b4, 3, none⟩ (.slice A2 x2.length c2)).setCell ⟨b4, 4, none⟩ (.slice A3 x3.length c3)).setCell ⟨b4, 5, none⟩ (.slice none 0 0)).setCell ⟨b4, 6, none⟩ (.slice none 0 0)) := by
  have T := turn_set (turn_set (turn_set (turn_set (turn_set (turn_set (turn_set (turn_refl w6 (b4)) (p := ⟨b4, 0, none⟩) rfl (.int .i64 l)) (p := ⟨b4, 1, none⟩) rfl (.int .i64 s)) (p := ⟨b4, 2, none⟩) rfl (.slice A1 x1.length c1)) (p := ⟨b4, 3, none⟩) rfl (.slice A2 x2.length c2)) (p := ⟨b4, 4, none⟩) rfl (.slice A3 x3.length c3)) (p := ⟨b4, 5, none⟩) rfl (.slice none 0 0)) (p := ⟨b4, 6, none⟩) rfl (.slice none 0 0)
  have hb := h.hb
  have hne : w.heap.size ≠ b4 := by omega
  have n1 : ∀ a, A1 = some a → a.block ≠ b4 := fun a e => by have := h.n a e; omega
  have hB := (((((((SX.set_ 0 (.int .i64 l)).set_ 1 (.int .i64 s)).set_ 2 (.slice A1 x1.length c1)).set_ 3 (.slice A2 x2.length c2)).set_ 4 (.slice A3 x3.length c3)).set_ 5 (.slice none 0 0)).set_ 6 (.slice none 0 0))
  exact ⟨(((((((h.g.set (b := b4) (j := 0) (by omega) (.int .i64 l)).set (b := b4) (j := 1) (by omega) (.int .i64 s)).set (b := b4) (j := 2) (by omega) (.slice A1 x1.length c1)).set (b := b4) (j := 3) (by omega) (.slice A2 x2.length c2)).set (b := b4) (j := 4) (by omega) (.slice A3 x3.length c3)).set (b := b4) (j := 5) (by omega) (.slice none 0 0)).set (b := b4) (j := 6) (by omega) (.slice none 0 0)), (((((((h.r.far (p := ⟨b4, 0, none⟩) hne (.int .i64 l)).far (p := ⟨b4, 1, none⟩) hne (.int .i64 s)).far (p := ⟨b4, 2, none⟩) hne (.slice A1 x1.length c1)).far (p := ⟨b4, 3, none⟩) hne (.slice A2 x2.length c2)).far (p := ⟨b4, 4, none⟩) hne (.slice A3 x3.length c3)).far (p := ⟨b4, 5, none⟩) hne (.slice none 0 0)).far (p := ⟨b4, 6, none⟩) hne (.slice none 0 0)), hB, by omega, own_grown h.o T (fun a e e' => n1 a e (Option.some.inj e')), own_grown o2 T (fun a e e' => n2 a e (Option.some.inj e')), own_grown o3 T (fun a e e' => n3 a e (Option.some.inj e')), own_nil _ _, own_nil _ _, n1, n2, n3, (fun a e => by cases e), (fun a e => by cases e)⟩
set_option maxHeartbeats 1000000 in
theorem E7.setAll {w wr : World} {g b : Nat} {l s : Int} {A1 : Option Addr} {c1 : Nat} {x1 : List Int} {A2 : Option Addr} {c2 : Nat} {x2 : List Int} {A3 : Option Addr} {c3 : Nat} {x3 : List Int} {A4 : Option Addr} {c4 : Nat} {x4 : List Int} {A5 : Option Addr} {c5 : Nat} {x5 : List Int} {l' s' : Int} {B1 : Option Addr} {d1 : Nat} {y1 : List Int} {B2 : Option Addr} {d2 : Nat} {y2 : List Int} {B3 : Option Addr} {d3 : Nat} {y3 : List Int} {B4 : Option Addr} {d4 : Nat} {y4 : List Int} {B5 : Option Addr} {d5 : Nat} {y5 : List Int} (h : E7 w g b l' s' B1 d1 y1 B2 d2 y2 B3 d3 y3 B4 d4 y4 B5 d5 y5 wr) (o1 : Own wr (w.heap.size + 1) A1 c1 x1) (o2 : Own wr (w.heap.size + 1) A2 c2 x2) (o3 : Own wr (w.heap.size + 1) A3 c3 x3) (o4 : Own wr (w.heap.size + 1) A4 c4 x4) (o5 : Own wr (w.heap.size + 1) A5 c5 x5) (n1 : ∀ a, A1 = some a → a.block ≠ b) (n2 : ∀ a, A2 = some a → a.block ≠ b) (n3 : ∀ a, A3 = some a → a.block ≠ b) (n4 : ∀ a, A4 = some a → a.block ≠ b) (n5 : ∀ a, A5 = some a → a.block ≠ b) : E7 w g b l s A1 c1 x1 A2 c2 x2 A3 c3 x3 A4 c4 x4 A5 c5 x5 (((((((wr.setCell ⟨b, 0, none⟩ (.int .i64 l)).setCell ⟨b, 1, none⟩ (.int .i64 s)).setCell ⟨b, 2, none⟩ (.slice A1 x1.length c1)).setCell ⟨b, 3, none⟩ (.slice A2 x2.length c2)).setCell ⟨b, 4, none⟩ (.slice A3 x3.length c3)).setCell ⟨b, 5, none⟩ (.slice A4 x4.length c4)).setCell ⟨b, 6, none⟩ (.slice A5 x5.length c5)) := by
  have T := turn_set (turn_set (turn_set (turn_set (turn_set (turn_set (turn_set (turn_refl wr (b)) (p := ⟨b, 0, none⟩) rfl (.int .i64 l)) (p := ⟨b, 1, none⟩) rfl (.int .i64 s)) (p := ⟨b, 2, none⟩) rfl (.slice A1 x1.length c1)) (p := ⟨b, 3, none⟩) rfl (.slice A2 x2.length c2)) (p := ⟨b, 4, none⟩) rfl (.slice A3 x3.length c3)) (p := ⟨b, 5, none⟩) rfl (.slice A4 x4.length c4)) (p := ⟨b, 6, none⟩) rfl (.slice A5 x5.length c5)
  have hb := h.hb
  have hne : w.heap.size ≠ b := by omega
  exact ⟨(((((((h.g.set (b := b) (j := 0) (by omega) (.int .i64 l)).set (b := b) (j := 1) (by omega) (.int .i64 s)).set (b := b) (j := 2) (by omega) (.slice A1 x1.length c1)).set (b := b) (j := 3) (by omega) (.slice A2 x2.length c2)).set (b := b) (j := 4) (by omega) (.slice A3 x3.length c3)).set (b := b) (j := 5) (by omega) (.slice A4 x4.length c4)).set (b := b) (j := 6) (by omega) (.slice A5 x5.length c5)), (((((((h.r.far (p := ⟨b, 0, none⟩) hne (.int .i64 l)).far (p := ⟨b, 1, none⟩) hne (.int .i64 s)).far (p := ⟨b, 2, none⟩) hne (.slice A1 x1.length c1)).far (p := ⟨b, 3, none⟩) hne (.slice A2 x2.length c2)).far (p := ⟨b, 4, none⟩) hne (.slice A3 x3.length c3)).far (p := ⟨b, 5, none⟩) hne (.slice A4 x4.length c4)).far (p := ⟨b, 6, none⟩) hne (.slice A5 x5.length c5)), (((((((h.m.set_ 0 (.int .i64 l)).set_ 1 (.int .i64 s)).set_ 2 (.slice A1 x1.length c1)).set_ 3 (.slice A2 x2.length c2)).set_ 4 (.slice A3 x3.length c3)).set_ 5 (.slice A4 x4.length c4)).set_ 6 (.slice A5 x5.length c5)), h.hb, own_grown o1 T (fun a e e' => n1 a e (Option.some.inj e')), own_grown o2 T (fun a e e' => n2 a e (Option.some.inj e')), own_grown o3 T (fun a e e' => n3 a e (Option.some.inj e')), own_grown o4 T (fun a e e' => n4 a e (Option.some.inj e')), own_grown o5 T (fun a e e' => n5 a e (Option.some.inj e')), n1, n2, n3, n4, n5⟩
theorem l7Any_res {tmps : Array Value} {g : Nat} {w : World} {v0 : Value} {v1 : Value} {v2 : Value} {v3 : Value} {v4 : Value} {v5 : Value} {v6 : Value} (hp : tmps.getD 2 undef = .pointer (some ⟨g, 0, none⟩)) (c0 : w.cell? ⟨g, 0, none⟩ = some v0) (c1 : w.cell? ⟨g, 1, none⟩ = some v1) (c2 : w.cell? ⟨g, 2, none⟩ = some v2) (c3 : w.cell? ⟨g, 3, none⟩ = some v3) (c4 : w.cell? ⟨g, 4, none⟩ = some v4) (c5 : w.cell? ⟨g, 5, none⟩ = some v5) (c6 : w.cell? ⟨g, 6, none⟩ = some v6) :
    (results Tryz.f66 tmps).run Tryz.prog w = .ok (.agg #[v0, v1, v2, v3, v4, v5, v6]) w := by
  have hp' := hp
  simp at hp'
  simp only [results, Tryz.results66]
  simp [go_sem, hp', c0, c1, c2, c3, c4, c5, c6]
theorem MakeBench_res {tmps : Array Value} {g : Nat} {w : World} {v0 : Value} {v1 : Value} {v2 : Value} {v3 : Value} {v4 : Value} {v5 : Value} {v6 : Value} (hp : tmps.getD 2 undef = .pointer (some ⟨g, 0, none⟩)) (c0 : w.cell? ⟨g, 0, none⟩ = some v0) (c1 : w.cell? ⟨g, 1, none⟩ = some v1) (c2 : w.cell? ⟨g, 2, none⟩ = some v2) (c3 : w.cell? ⟨g, 3, none⟩ = some v3) (c4 : w.cell? ⟨g, 4, none⟩ = some v4) (c5 : w.cell? ⟨g, 5, none⟩ = some v5) (c6 : w.cell? ⟨g, 6, none⟩ = some v6) :
    (results Tryz.f24 tmps).run Tryz.prog w = .ok (.agg #[v0, v1, v2, v3, v4, v5, v6]) w := by
  have hp' := hp
  simp at hp'
  simp only [results, Tryz.results24]
  simp [go_sem, hp', c0, c1, c2, c3, c4, c5, c6]
end Go.Proofs.YtgkijkenbjjnmaaGreatDoor
