/- Contracts of the two NewComb. -/
import Derived.Test.YtfplecbacgcjgaaClone
import Derived.Test.YtfplecbacgcjgaaBase
namespace Go.Proofs.Ytfplecbacgcjgaa
open Go.RowKit
set_option linter.unusedVariables false
set_option linter.unusedSimpArgs false
structure CS where
  sums : List Int
  delays : List Int
  phase : Int
def RetCS (w : World) (s : CS) (e : Ending) (w' : World) : Prop :=
  ∃ A c A' c', e = .returned (.agg #[.slice A s.sums.length c, .slice A' s.delays.length c', .int .i64 s.phase]) ∧ Own w' w.heap.size A c s.sums ∧ Own w' w.heap.size A' c' s.delays ∧ Apart A A' ∧ Below w.heap.size w w'
def zeros (n : Nat) : List Int := List.replicate n 0
def newCS (o r k : Int) : CS := if inB o 1 6 && inB r 1 100 && inB k 2 62 then ⟨zeros o.toNat, zeros o.toNat, 0⟩ else ⟨[], [], 0⟩
theorem zeros_length (n : Nat) : (zeros n).length = n := by simp [zeros]
theorem cs_made {w w1 : World} {n : Nat} {x y : Value} (h1 : Below w.heap.size w w1) (hz : w.heap.size + 1 < w1.heap.size) (R1 : Blk w1 (w.heap.size + 1) 35 #[.slice none 0 0, .slice none 0 0, .int .i64 0]) (hn : n ≤ 1000) :
    Blk (((((w1.setCell ⟨w.heap.size + 1, 0, none⟩ x).setCell ⟨w.heap.size + 1, 1, none⟩ y).setCell ⟨w.heap.size + 1, 2, none⟩ (.int .i64 0)).alloc (.cells (madeCells #[.int .i64 0] n) 3)).alloc (.cells (madeCells #[.int .i64 0] n) 3)).drew (w.heap.size + 1) 35 #[x, y, .int .i64 0] ∧
    Own (((((w1.setCell ⟨w.heap.size + 1, 0, none⟩ x).setCell ⟨w.heap.size + 1, 1, none⟩ y).setCell ⟨w.heap.size + 1, 2, none⟩ (.int .i64 0)).alloc (.cells (madeCells #[.int .i64 0] n) 3)).alloc (.cells (madeCells #[.int .i64 0] n) 3)).drew w.heap.size (some ⟨w1.heap.size, 0, none⟩) n (zeros n) ∧
    Own (((((w1.setCell ⟨w.heap.size + 1, 0, none⟩ x).setCell ⟨w.heap.size + 1, 1, none⟩ y).setCell ⟨w.heap.size + 1, 2, none⟩ (.int .i64 0)).alloc (.cells (madeCells #[.int .i64 0] n) 3)).alloc (.cells (madeCells #[.int .i64 0] n) 3)).drew w.heap.size (some ⟨w1.heap.size + 1, 0, none⟩) n (zeros n) ∧
    Below w.heap.size w (((((w1.setCell ⟨w.heap.size + 1, 0, none⟩ x).setCell ⟨w.heap.size + 1, 1, none⟩ y).setCell ⟨w.heap.size + 1, 2, none⟩ (.int .i64 0)).alloc (.cells (madeCells #[.int .i64 0] n) 3)).alloc (.cells (madeCells #[.int .i64 0] n) 3)).drew := by
  have b3 : Below w.heap.size w (((w1.setCell ⟨w.heap.size + 1, 0, none⟩ x).setCell ⟨w.heap.size + 1, 1, none⟩ y).setCell ⟨w.heap.size + 1, 2, none⟩ (.int .i64 0)) := ((h1.setCell (by simp) _).setCell (by simp) _).setCell (by simp) _
  have R3 : Blk (((w1.setCell ⟨w.heap.size + 1, 0, none⟩ x).setCell ⟨w.heap.size + 1, 1, none⟩ y).setCell ⟨w.heap.size + 1, 2, none⟩ (.int .i64 0)) (w.heap.size + 1) 35 #[x, y, .int .i64 0] := ((R1.set_ 0 x).set_ 1 y).set_ 2 (.int .i64 0)
  have hN : (((w1.setCell ⟨w.heap.size + 1, 0, none⟩ x).setCell ⟨w.heap.size + 1, 1, none⟩ y).setCell ⟨w.heap.size + 1, 2, none⟩ (.int .i64 0)).heap.size = w1.heap.size := by simp
  generalize (((w1.setCell ⟨w.heap.size + 1, 0, none⟩ x).setCell ⟨w.heap.size + 1, 1, none⟩ y).setCell ⟨w.heap.size + 1, 2, none⟩ (.int .i64 0)) = W at *
  rw [← hN]
  have h1' := own_made (B := w.heap.size) W n (by omega) (by simp only [maxLen]; omega)
  have h2 := own_made (B := w.heap.size) (W.alloc (.cells (madeCells #[.int .i64 0] n) 3)) n (by simp; omega) (by simp only [maxLen]; omega)
  simp only [World.size_alloc] at h2
  exact ⟨((R3.alloc _).alloc _).drew, own_past h1' (((Below.refl _ _).alloc (Nat.le_refl _) _).drew), h2, ((b3.alloc (by omega) _).alloc (by simp; omega) _).drew⟩
theorem retCS_zeros {w w' : World} {n : Nat} {a b : Nat} (h1 : Own w' w.heap.size (some ⟨a, 0, none⟩) n (zeros n)) (h2 : Own w' w.heap.size (some ⟨b, 0, none⟩) n (zeros n)) (hab : a ≠ b) (hb : Below w.heap.size w w') :
    RetCS w ⟨zeros n, zeros n, 0⟩ (.returned (.agg #[.slice (some ⟨a, 0, none⟩) n n, .slice (some ⟨b, 0, none⟩) n n, .int .i64 0])) w' :=
  ⟨_, n, _, n, by simp [zeros_length], h1, h2, fun x y hx hy => by injection hx with hx; injection hy with hy; subst hx; subst hy; exact hab, hb⟩
theorem retCS_nil {w w' : World} (hb : Below w.heap.size w w') : RetCS w ⟨[], [], 0⟩ (.returned (.agg #[.slice none 0 0, .slice none 0 0, .int .i64 0])) w' :=
  ⟨none, 0, none, 0, rfl, own_nil _ _, own_nil _ _, (fun x y hx hy => by cases hx), hb⟩
theorem implNewComb_res {tmps : Array Value} {g : Nat} {w : World} {v0 v1 v2 : Value} (hp : tmps.getD 2 undef = .pointer (some ⟨g, 0, none⟩)) (c0 : w.cell? ⟨g, 0, none⟩ = some v0) (c1 : w.cell? ⟨g, 1, none⟩ = some v1) (c2 : w.cell? ⟨g, 2, none⟩ = some v2) :
    (results Try.f20 tmps).run Try.prog w = .ok (.agg #[v0, v1, v2]) w := by
  have hp' := hp
  simp at hp'
  simp only [results, Try.results20]
  simp [go_sem, hp', c0, c1, c2]
set_option maxHeartbeats 400000 in
theorem implNewComb_yes (n : Nat) (r k : Int) (w : World) (hc : combOk n r k = true) (hn : n ≤ 6) :
    Calls Try.prog 20 #[.agg #[.int .i64 n, .int .i64 r, .int .i64 k]] w (RetCS w ⟨zeros n, zeros n, 0⟩) := by
  have hmk := make_ints n (by omega)
  go_enter Try.func20, Try.ntmps20
  go_wp2_with fail
  have B0 := (Blk.new w 24 #[.int .i64 n, .int .i64 r, .int .i64 k]).alloc (.cells #[.slice none 0 0, .slice none 0 0, .int .i64 0] 35)
  have R0 := Blk.new (w.alloc (.cells #[.int .i64 n, .int .i64 r, .int .i64 k] 24)) 35 #[.slice none 0 0, .slice none 0 0, .int .i64 0]
  refine (implIsComb_any _ _ _ _).mono ?_; rintro e w1 ⟨rfl, h1⟩
  have B1 := B0.past h1
  have R1 := R0.past h1
  have hz0 : w.heap.size < w1.heap.size := by have := h1.size; simp at this; omega
  have hz1 : w.heap.size + 1 < w1.heap.size := by have := h1.size; simp at this; omega
  have hz2 : w.heap.size < w1.heap.size + 1 := by omega
  have hz3 : w.heap.size + 1 < w1.heap.size + 1 := by omega
  simp at R1
  have c0 := B1.cell 0
  have r0 := R1.cell 0
  have r1 := R1.cell 1
  have r2 := R1.cell 2
  have f0 := R1.frozen 0
  have f1 := R1.frozen 1
  have f2 := R1.frozen 2
  simp at c0 r0 r1 r2
  have Hb := Lib.hid (thenB (((Below.refl _ _).alloc (Nat.le_refl _) _).alloc (by simp) _) h1)
  have RR := Lib.hid R1
  clear B0 R0 B1 R1 h1
  go_wp2_with fail
  go_region
  · go_wp2
    obtain ⟨RF, q1, q2, hb⟩ := cs_made (n := n) (x := .slice (some ⟨w1.heap.size, 0, none⟩) n n) (y := .slice (some ⟨w1.heap.size + 1, 0, none⟩) n n) Hb.out hz1 RR.out (by omega)
    exact bodyPost_ret (implNewComb_res rfl (RF.cell 0) (RF.cell 1) (RF.cell 2)) rfl (retCS_zeros q1 q2 (by omega) hb)
  · go_wp2
    obtain ⟨RF, q1, q2, hb⟩ := cs_made (n := n) (x := .slice (some ⟨w1.heap.size + 1, 0, none⟩) n n) (y := .slice (some ⟨w1.heap.size, 0, none⟩) n n) Hb.out hz1 RR.out (by omega)
    exact bodyPost_ret (implNewComb_res rfl (RF.cell 0) (RF.cell 1) (RF.cell 2)) rfl (retCS_zeros q2 q1 (by omega) hb)
theorem implNewComb_no (o r k : Int) (w : World) (hc : combOk o r k = false) :
    Calls Try.prog 20 #[.agg #[.int .i64 o, .int .i64 r, .int .i64 k]] w (RetCS w ⟨[], [], 0⟩) := by
  go_enter Try.func20, Try.ntmps20
  go_wp2_with fail
  have R0 := Blk.new (w.alloc (.cells #[.int .i64 o, .int .i64 r, .int .i64 k] 24)) 35 #[.slice none 0 0, .slice none 0 0, .int .i64 0]
  refine (implIsComb_any _ _ _ _).mono ?_; rintro e w1 ⟨rfl, h1⟩
  have R1 := R0.past h1
  simp at R1
  have r0 := R1.cell 0
  have r1 := R1.cell 1
  have r2 := R1.cell 2
  have f0 := R1.frozen 0
  have f1 := R1.frozen 1
  have f2 := R1.frozen 2
  simp at r0 r1 r2
  have Hb := Lib.hid (thenB (((Below.refl _ _).alloc (Nat.le_refl _) _).alloc (by simp) _) h1)
  have RR := Lib.hid R1
  clear R0 R1 h1
  go_wp2_with fail
  have RF : Blk (((w1.setCell ⟨w.heap.size + 1, 0, none⟩ (.slice none 0 0)).setCell ⟨w.heap.size + 1, 1, none⟩ (.slice none 0 0)).setCell ⟨w.heap.size + 1, 2, none⟩ (.int .i64 0)) (w.heap.size + 1) 35 #[.slice none 0 0, .slice none 0 0, .int .i64 0] := ((RR.out.set_ 0 _).set_ 1 _).set_ 2 _
  exact bodyPost_ret (implNewComb_res rfl (RF.cell 0) (RF.cell 1) (RF.cell 2)) rfl (retCS_nil (((Hb.out.setCell (by simp) _).setCell (by simp) _).setCell (by simp) _))
theorem implNewComb_any (o r k : Int) (w : World) :
    Calls Try.prog 20 #[.agg #[.int .i64 o, .int .i64 r, .int .i64 k]] w (RetCS w (newCS o r k)) := by
  rcases Bool.eq_false_or_eq_true (combOk o r k) with h | h
  · obtain ⟨⟨o1, o2⟩, _⟩ := comb_parts h
    obtain ⟨n, rfl⟩ : ∃ n : Nat, o = n := ⟨o.toNat, by omega⟩
    have e : newCS n r k = ⟨zeros n, zeros n, 0⟩ := by
      unfold newCS
      unfold combOk at h
      rw [if_pos h]; rfl
    rw [e]
    exact implNewComb_yes n r k w h (by omega)
  · have e : newCS o r k = ⟨[], [], 0⟩ := by
      unfold newCS
      unfold combOk at h
      rw [if_neg (by simp [h])]
    rw [e]
    exact implNewComb_no o r k w h
theorem specNewComb_res {tmps : Array Value} {g : Nat} {w : World} {v0 v1 v2 : Value} (hp : tmps.getD 2 undef = .pointer (some ⟨g, 0, none⟩)) (c0 : w.cell? ⟨g, 0, none⟩ = some v0) (c1 : w.cell? ⟨g, 1, none⟩ = some v1) (c2 : w.cell? ⟨g, 2, none⟩ = some v2) :
    (results Try.f23 tmps).run Try.prog w = .ok (.agg #[v0, v1, v2]) w := by
  have hp' := hp
  simp at hp'
  simp only [results, Try.results23]
  simp [go_sem, hp', c0, c1, c2]
set_option maxHeartbeats 400000 in
theorem specNewComb_yes (n : Nat) (r k : Int) (w : World) (hc : combOk n r k = true) (hn : n ≤ 6) :
    Calls Try.prog 23 #[.agg #[.int .i64 n, .int .i64 r, .int .i64 k]] w (RetCS w ⟨zeros n, zeros n, 0⟩) := by
  have hmk := make_ints n (by omega)
  go_enter Try.func23, Try.ntmps23
  go_wp2_with fail
  have B0 := (Blk.new w 24 #[.int .i64 n, .int .i64 r, .int .i64 k]).alloc (.cells #[.slice none 0 0, .slice none 0 0, .int .i64 0] 35)
  have R0 := Blk.new (w.alloc (.cells #[.int .i64 n, .int .i64 r, .int .i64 k] 24)) 35 #[.slice none 0 0, .slice none 0 0, .int .i64 0]
  refine (specIsComb_any _ _ _ _).mono ?_; rintro e w1 ⟨rfl, h1⟩
  have B1 := B0.past h1
  have R1 := R0.past h1
  have hz0 : w.heap.size < w1.heap.size := by have := h1.size; simp at this; omega
  have hz1 : w.heap.size + 1 < w1.heap.size := by have := h1.size; simp at this; omega
  have hz2 : w.heap.size < w1.heap.size + 1 := by omega
  have hz3 : w.heap.size + 1 < w1.heap.size + 1 := by omega
  simp at R1
  have c0 := B1.cell 0
  have r0 := R1.cell 0
  have r1 := R1.cell 1
  have r2 := R1.cell 2
  have f0 := R1.frozen 0
  have f1 := R1.frozen 1
  have f2 := R1.frozen 2
  simp at c0 r0 r1 r2
  have Hb := Lib.hid (thenB (((Below.refl _ _).alloc (Nat.le_refl _) _).alloc (by simp) _) h1)
  have RR := Lib.hid R1
  clear B0 R0 B1 R1 h1
  go_wp2_with fail
  go_region
  · go_wp2
    obtain ⟨RF, q1, q2, hb⟩ := cs_made (n := n) (x := .slice (some ⟨w1.heap.size, 0, none⟩) n n) (y := .slice (some ⟨w1.heap.size + 1, 0, none⟩) n n) Hb.out hz1 RR.out (by omega)
    exact bodyPost_ret (specNewComb_res rfl (RF.cell 0) (RF.cell 1) (RF.cell 2)) rfl (retCS_zeros q1 q2 (by omega) hb)
  · go_wp2
    obtain ⟨RF, q1, q2, hb⟩ := cs_made (n := n) (x := .slice (some ⟨w1.heap.size + 1, 0, none⟩) n n) (y := .slice (some ⟨w1.heap.size, 0, none⟩) n n) Hb.out hz1 RR.out (by omega)
    exact bodyPost_ret (specNewComb_res rfl (RF.cell 0) (RF.cell 1) (RF.cell 2)) rfl (retCS_zeros q2 q1 (by omega) hb)
theorem specNewComb_no (o r k : Int) (w : World) (hc : combOk o r k = false) :
    Calls Try.prog 23 #[.agg #[.int .i64 o, .int .i64 r, .int .i64 k]] w (RetCS w ⟨[], [], 0⟩) := by
  go_enter Try.func23, Try.ntmps23
  go_wp2_with fail
  have R0 := Blk.new (w.alloc (.cells #[.int .i64 o, .int .i64 r, .int .i64 k] 24)) 35 #[.slice none 0 0, .slice none 0 0, .int .i64 0]
  refine (specIsComb_any _ _ _ _).mono ?_; rintro e w1 ⟨rfl, h1⟩
  have R1 := R0.past h1
  simp at R1
  have r0 := R1.cell 0
  have r1 := R1.cell 1
  have r2 := R1.cell 2
  have f0 := R1.frozen 0
  have f1 := R1.frozen 1
  have f2 := R1.frozen 2
  simp at r0 r1 r2
  have Hb := Lib.hid (thenB (((Below.refl _ _).alloc (Nat.le_refl _) _).alloc (by simp) _) h1)
  have RR := Lib.hid R1
  clear R0 R1 h1
  go_wp2_with fail
  have RF : Blk (((w1.setCell ⟨w.heap.size + 1, 0, none⟩ (.slice none 0 0)).setCell ⟨w.heap.size + 1, 1, none⟩ (.slice none 0 0)).setCell ⟨w.heap.size + 1, 2, none⟩ (.int .i64 0)) (w.heap.size + 1) 35 #[.slice none 0 0, .slice none 0 0, .int .i64 0] := ((RR.out.set_ 0 _).set_ 1 _).set_ 2 _
  exact bodyPost_ret (specNewComb_res rfl (RF.cell 0) (RF.cell 1) (RF.cell 2)) rfl (retCS_nil (((Hb.out.setCell (by simp) _).setCell (by simp) _).setCell (by simp) _))
theorem specNewComb_any (o r k : Int) (w : World) :
    Calls Try.prog 23 #[.agg #[.int .i64 o, .int .i64 r, .int .i64 k]] w (RetCS w (newCS o r k)) := by
  rcases Bool.eq_false_or_eq_true (combOk o r k) with h | h
  · obtain ⟨⟨o1, o2⟩, _⟩ := comb_parts h
    obtain ⟨n, rfl⟩ : ∃ n : Nat, o = n := ⟨o.toNat, by omega⟩
    have e : newCS n r k = ⟨zeros n, zeros n, 0⟩ := by
      unfold newCS
      unfold combOk at h
      rw [if_pos h]; rfl
    rw [e]
    exact specNewComb_yes n r k w h (by omega)
  · have e : newCS o r k = ⟨[], [], 0⟩ := by
      unfold newCS
      unfold combOk at h
      rw [if_neg (by simp [h])]
    rw [e]
    exact specNewComb_no o r k w h
end Go.Proofs.Ytfplecbacgcjgaa
