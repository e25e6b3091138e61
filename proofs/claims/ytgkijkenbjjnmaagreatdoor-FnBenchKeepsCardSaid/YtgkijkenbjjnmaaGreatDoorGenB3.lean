/- Generators under the cursor: any quantiser, an input, a text picked from a list. -/
import Derived.Test.YtgkijkenbjjnmaaGreatDoorGenB2
import Derived.Test.YtgkijkenbjjnmaaGreatDoorStrL
namespace Go.Proofs.YtgkijkenbjjnmaaGreatDoor
open Go.RowKit
set_option linter.unusedVariables false
set_option linter.unusedSimpArgs false
def RetQn (g : Nat) (w : World) (e : Ending) (w' : World) : Prop := ∃ l s : Int, e = .returned (.agg #[.int .i64 l, .int .i64 s]) ∧ Cur w' g ∧ w.grownBy w' (some g)
theorem l2Any_res {tmps : Array Value} {g : Nat} {w : World} {v0 v1 : Value} (hp : tmps.getD 2 undef = .pointer (some ⟨g, 0, none⟩)) (c0 : w.cell? ⟨g, 0, none⟩ = some v0) (c1 : w.cell? ⟨g, 1, none⟩ = some v1) :
    (results Tryz.f139 tmps).run Tryz.prog w = .ok (.agg #[v0, v1]) w := by
  have hp' := hp
  simp at hp'
  simp only [results, Tryz.results139]
  simp [go_sem, hp', c0, c1]
set_option maxRecDepth 100000 in
set_option maxHeartbeats 1000000 in
theorem l2Any_any (g : Nat) (w : World) (hc : Cur w g) : Calls Tryz.prog 139 #[.pointer (some ⟨g, 0, none⟩)] w (RetQn g w) := by
  have hgl := hc.lt
  have B0 := Blk.new w 24 #[.int .i64 0, .int .i64 0]
  have G := (Gs.start hc).past ((Below.refl _ _).alloc (Nat.le_refl _) (.cells #[.int .i64 0, .int .i64 0] 24))
  clear hc
  go_enter Tryz.func139, Tryz.ntmps139
  go_wp2_with fail
  refine (l01Below_any g 4 _ G.cur (by omega) (by omega)).mono ?_; rintro e w1 ⟨v, rfl, v1, v2, C1, T1⟩
  replace B0 := blk_turn B0 T1 (by omega)
  replace G := G.turn C1 T1
  clear T1
  go_wp2_with fail
  refine (lit_pick g [1, 2, 3, 16, 50, 64] w1 C1 (by simp) (by simp)).mono ?_; rintro e w2 ⟨s, rfl, s1, C2, T2⟩
  replace B0 := blk_turn B0 T2 (by omega)
  replace G := G.turn C2 T2
  have z2 : w.heap.size < w2.heap.size := B0.lt
  clear T2 C1 C2 s1
  have bx : Below w2.heap.size w2 (w2.alloc (.cells #[.int .i64 (2 + v), .int .i64 s] 24)) := (Below.refl _ _).alloc (Nat.le_refl _) _
  have BQ := Blk.new w2 24 #[.int .i64 (2 + v), .int .i64 s]
  replace B0 := B0.past bx
  replace G := G.past bx
  go_wp2_with fail
  obtain ⟨w3, hw3⟩ : ∃ W, W = w2.alloc (.cells #[.int .i64 (2 + v), .int .i64 s] 24) := ⟨_, rfl⟩
  rw [← hw3] at B0 G BQ ⊢
  clear hw3 bx
  obtain ⟨l, hl⟩ : ∃ l, l = 2 + v := ⟨_, rfl⟩
  rw [← hl] at BQ ⊢
  obtain ⟨b1, hb1⟩ : ∃ b, b = w2.heap.size := ⟨_, rfl⟩
  rw [← hb1] at BQ z2 ⊢
  clear hl hb1 v1 v2
  refine (l01Once_any g 12 w3 G.cur (by omega) (by omega)).mono ?_; rintro e w4 ⟨b, rfl, C4, T4⟩
  replace B0 := blk_turn B0 T4 (by omega)
  replace BQ := blk_turn BQ T4 (by omega)
  replace G := G.turn C4 T4
  clear T4 C4
  have hne1 : ¬ (b1 = w.heap.size) := by omega
  have hne2 : ¬ (w.heap.size = b1) := by omega
  cases b
  · have q0 := BQ.cell 0; have q1 := BQ.cell 1; have p0 := B0.cell 0; have p1 := B0.cell 1; have f0 := B0.frozen 0; have f1 := B0.frozen 1
    simp at q0 q1 p0 p1
    have D := (B0.set_ 0 (.int .i64 l)).set_ 1 (.int .i64 s)
    have d0 := D.cell 0; have d1 := D.cell 1
    simp at d0 d1
    have HG := Lib.hid ((G.set (b := w.heap.size) (j := 0) (Nat.le_refl _) (.int .i64 l)).set (b := w.heap.size) (j := 1) (Nat.le_refl _) (.int .i64 s))
    clear D BQ B0 G
    go_wp2_with fail
    refine bodyPost_ret (l2Any_res rfl d0 d1) rfl ?_
    exact ⟨_, _, rfl, HG.out.cur, HG.out.grown⟩
  · go_wp2_with fail
    refine (l01Below_any g 3 _ G.cur (by omega) (by omega)).mono ?_; rintro e w5 ⟨v, rfl, v1, v2, C5, T5⟩
    replace B0 := blk_turn B0 T5 (by omega)
    replace BQ := blk_turn BQ T5 (by omega)
    replace G := G.turn C5 T5
    clear T5
    obtain rfl | rfl | rfl : v = 0 ∨ v = 1 ∨ v = 2 := by omega
    · go_wp2_with fail
      refine (lit_pick g [0, 1, 16, 17, -1, -9223372036854775808] w5 C5 (by simp) (by simp)).mono ?_; rintro e w6 ⟨u, rfl, u1, C6, T6⟩
      replace B0 := blk_turn B0 T6 (by omega)
      replace BQ := blk_turn BQ T6 (by omega)
      replace G := G.turn C6 T6
      clear T6 C5 C6 u1
      have k0 := BQ.cell 0; have k1 := BQ.frozen 0
      have BQ2 := BQ.set_ 0 (.int .i64 u)
      have B02 := B0.far (p := ⟨b1, 0, none⟩) (show w.heap.size ≠ b1 by omega) (.int .i64 u)
      have G2 := G.set (b := b1) (j := 0) (by omega) (.int .i64 u)
      have q0 := BQ2.cell 0; have q1 := BQ2.cell 1; have p0 := B02.cell 0; have p1 := B02.cell 1; have f0 := B02.frozen 0; have f1 := B02.frozen 1
      simp at q0 q1 p0 p1 k0
      have D := (B02.set_ 0 (.int .i64 u)).set_ 1 (.int .i64 s)
      have d0 := D.cell 0; have d1 := D.cell 1
      simp at d0 d1
      have HG := Lib.hid ((G2.set (b := w.heap.size) (j := 0) (Nat.le_refl _) (.int .i64 u)).set (b := w.heap.size) (j := 1) (Nat.le_refl _) (.int .i64 s))
      clear D BQ B0 G BQ2 B02 G2
      go_wp2_with fail
      refine bodyPost_ret (l2Any_res rfl d0 d1) rfl ?_
      exact ⟨_, _, rfl, HG.out.cur, HG.out.grown⟩
    · go_wp2_with fail
      refine (lit_pick g [0, -1, 1073741824, 1073741825, 9223372036854775807] w5 C5 (by simp) (by simp)).mono ?_; rintro e w6 ⟨u, rfl, u1, C6, T6⟩
      replace B0 := blk_turn B0 T6 (by omega)
      replace BQ := blk_turn BQ T6 (by omega)
      replace G := G.turn C6 T6
      clear T6 C5 C6 u1
      have k0 := BQ.cell 1; have k1 := BQ.frozen 1
      have BQ2 := BQ.set_ 1 (.int .i64 u)
      have B02 := B0.far (p := ⟨b1, 1, none⟩) (show w.heap.size ≠ b1 by omega) (.int .i64 u)
      have G2 := G.set (b := b1) (j := 1) (by omega) (.int .i64 u)
      have q0 := BQ2.cell 0; have q1 := BQ2.cell 1; have p0 := B02.cell 0; have p1 := B02.cell 1; have f0 := B02.frozen 0; have f1 := B02.frozen 1
      simp at q0 q1 p0 p1 k0
      have D := (B02.set_ 0 (.int .i64 l)).set_ 1 (.int .i64 u)
      have d0 := D.cell 0; have d1 := D.cell 1
      simp at d0 d1
      have HG := Lib.hid ((G2.set (b := w.heap.size) (j := 0) (Nat.le_refl _) (.int .i64 l)).set (b := w.heap.size) (j := 1) (Nat.le_refl _) (.int .i64 u))
      clear D BQ B0 G BQ2 B02 G2
      go_wp2_with fail
      refine bodyPost_ret (l2Any_res rfl d0 d1) rfl ?_
      exact ⟨_, _, rfl, HG.out.cur, HG.out.grown⟩
    · have k0 := BQ.cell 0; have k1 := BQ.frozen 0; have k2 := BQ.cell 1; have k3 := BQ.frozen 1
      have BQ2 := (BQ.set_ 0 (.int .i64 16)).set_ 1 (.int .i64 1073741824)
      have B02 := (B0.far (p := ⟨b1, 0, none⟩) (show w.heap.size ≠ b1 by omega) (.int .i64 16)).far (p := ⟨b1, 1, none⟩) (show w.heap.size ≠ b1 by omega) (.int .i64 1073741824)
      have G2 := (G.set (b := b1) (j := 0) (by omega) (.int .i64 16)).set (b := b1) (j := 1) (by omega) (.int .i64 1073741824)
      have q0 := BQ2.cell 0; have q1 := BQ2.cell 1; have p0 := B02.cell 0; have p1 := B02.cell 1; have f0 := B02.frozen 0; have f1 := B02.frozen 1
      simp at q0 q1 p0 p1 k0 k2
      have D := (B02.set_ 0 (.int .i64 16)).set_ 1 (.int .i64 1073741824)
      have d0 := D.cell 0; have d1 := D.cell 1
      simp at d0 d1
      have HG := Lib.hid ((G2.set (b := w.heap.size) (j := 0) (Nat.le_refl _) (.int .i64 16)).set (b := w.heap.size) (j := 1) (Nat.le_refl _) (.int .i64 1073741824))
      clear D BQ B0 G BQ2 B02 G2 C5
      go_wp2_with fail
      refine bodyPost_ret (l2Any_res rfl d0 d1) rfl ?_
      exact ⟨_, _, rfl, HG.out.cur, HG.out.grown⟩
def RetPickS (xs : List ByteArray) (g : Nat) (w : World) (e : Ending) (w' : World) : Prop := ∃ s : ByteArray, e = .returned (.string s) ∧ s ∈ xs ∧ Cur w' g ∧ w.grownBy w' (some g)
theorem l01Pick_any (g B c b : Nat) (xs : List ByteArray) (w : World) (hc : Cur w g) (hx : OwnS w B (some ⟨b, 0, none⟩) c xs) (hb : b ≠ g) (n1 : 1 ≤ xs.length) (n2 : xs.length ≤ 1000) :
    Calls Tryz.prog 113 #[.pointer (some ⟨g, 0, none⟩), .slice (some ⟨b, 0, none⟩) xs.length c] w (RetPickS xs g w) := by
  go_enter Tryz.func113, Tryz.ntmps113
  go_wp2_with fail
  refine (l01Below_any g xs.length _ hc (by omega) (by omega)).mono ?_; rintro e w1 ⟨v, rfl, v1, v2, C1, T1⟩
  obtain ⟨j, rfl⟩ : ∃ j : Nat, v = j := ⟨v.toNat, by omega⟩
  have hj : j < xs.length := by omega
  have X1 := ownS_grown hx T1 (fun a e e' => by have h1 := Option.some.inj e; have h2 := Option.some.inj e'; subst h1; exact hb h2)
  have k1 := ownS_cell2 X1 hj
  clear hx X1
  go_wp2_with fail
  go_ret
  exact ⟨_, rfl, List.getElem_mem hj, C1, T1⟩
theorem lit_pickS (g : Nat) (xs : List ByteArray) (w : World) (hc : Cur w g) (n1 : 1 ≤ xs.length) (n2 : xs.length ≤ 1000) :
    Calls Tryz.prog 113 #[.pointer (some ⟨g, 0, none⟩), .slice (some ⟨w.heap.size, 0, none⟩) xs.length xs.length] (w.alloc (.cells (xs.map Value.string).toArray 9)) (RetPickS xs g w) := by
  have bx : Below w.heap.size w (w.alloc (.cells (xs.map Value.string).toArray 9)) := (Below.refl _ _).alloc (Nat.le_refl _) _
  have O : OwnS (w.alloc (.cells (xs.map Value.string).toArray 9)) w.heap.size (some ⟨w.heap.size, 0, none⟩) xs.length xs := by
    have := World.ownsRow_lit (base := w.heap.size) (e := 9) (size := 1) w (xs.map Value.string).toArray xs.length (Nat.le_refl _) (by simp only [maxLen]; omega) (by simp)
    exact this
  have hg := hc.lt
  refine (l01Pick_any g _ _ _ xs _ (hc.past bx) O (Nat.ne_of_gt hg) n1 n2).mono ?_
  rintro e w' ⟨v, rfl, hv, C, T⟩
  exact ⟨v, rfl, hv, C, (turn_below bx _).trans T⟩
end Go.Proofs.YtgkijkenbjjnmaaGreatDoor
