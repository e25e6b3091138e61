/- Contract of MakeComb: a comb of an order from 1 to 4, a ratio from 1 to 6 and one of seven widths. -/
import Derived.Test.YtfplecbacgcjgaaGen
namespace Go.Proofs.Ytfplecbacgcjgaa
open Go.RowKit
set_option linter.unusedVariables false
set_option linter.unusedSimpArgs false
def RetComb (w : World) (e : Ending) (w' : World) : Prop := ∃ (o r k : Nat), e = .returned (.agg #[.int .i64 o, .int .i64 r, .int .i64 k]) ∧ 1 ≤ o ∧ o ≤ 4 ∧ 1 ≤ r ∧ r ≤ 6 ∧ 6 ≤ k ∧ k ≤ 62 ∧ Below w.heap.size w w'
theorem MakeComb_res {tmps : Array Value} {g : Nat} {w : World} {v0 v1 v2 : Value} (hp : tmps.getD 2 undef = .pointer (some ⟨g, 0, none⟩)) (c0 : w.cell? ⟨g, 0, none⟩ = some v0) (c1 : w.cell? ⟨g, 1, none⟩ = some v1) (c2 : w.cell? ⟨g, 2, none⟩ = some v2) :
    (results Try.f13 tmps).run Try.prog w = .ok (.agg #[v0, v1, v2]) w := by
  have hp' := hp
  simp at hp'
  simp only [results, Try.results13]
  simp [go_sem, hp', c0, c1, c2]
set_option maxRecDepth 100000 in
set_option maxHeartbeats 400000 in
theorem MakeComb_any (A : Option Addr) (c n : Nat) (w : World) (hr : RdB w w.heap.size A n) (hn : n ≤ 4294967296) : Calls Try.prog 13 #[.slice A n c] w (RetComb w) := by
  have hb0 : Below w.heap.size w (w.alloc (.cells #[.int .i64 0, .int .i64 0, .int .i64 0] 24)) := (Below.refl _ _).alloc (Nat.le_refl _) _
  have B0 := Blk.new w 24 #[.int .i64 0, .int .i64 0, .int .i64 0]
  have R0 := hr.past hb0
  have Hb := Lib.hid hb0
  clear hb0
  go_enter Try.func13, Try.ntmps13
  go_wp2_with fail
  refine (l01New_any _ _ _ _ R0 hn).mono ?_; rintro e w1 ⟨g, rfl, hg, C1, h1⟩
  have B1 := B0.past h1
  replace Hb := Lib.hid (thenB Hb.out h1)
  have hg0 : w.heap.size < g := by simp at hg; omega
  have hz1 : w.heap.size + 1 ≤ w1.heap.size := B1.lt
  clear h1 B0 R0 hg
  go_wp2_with fail
  refine (l01Below_any g _ _ C1 (by omega) (by omega)).mono ?_; rintro e w2 ⟨v, rfl, v1, v2, C2, T2⟩
  have B2 := blk_turn B1 T2 (by omega)
  replace Hb := Lib.hid (turn_past Hb.out T2 (by omega) (by omega))
  clear T2 B1 C1
  go_wp2_with fail
  refine (l01Below_any g _ _ C2 (by omega) (by omega)).mono ?_; rintro e w3 ⟨u, rfl, u1, u2, C3, T3⟩
  have hz2 : w.heap.size < w2.heap.size := B2.lt
  have B3 := blk_turn B2 T3 (by omega)
  replace Hb := Lib.hid (turn_past Hb.out T3 (by omega) (by omega))
  have hz3 : w.heap.size < w3.heap.size := B3.lt
  have hg3 : g < w3.heap.size := C3.lt
  clear T3 B2 C2
  have bx : Below w3.heap.size w3 (w3.alloc (.cells #[.int .i64 6, .int .i64 8, .int .i64 12, .int .i64 16, .int .i64 24, .int .i64 40, .int .i64 62] 3)) := (Below.refl _ _).alloc (Nat.le_refl _) _
  have O4 := own_cells (xs := [6, 8, 12, 16, 24, 40, 62]) w3 #[.int .i64 6, .int .i64 8, .int .i64 12, .int .i64 16, .int .i64 24, .int .i64 40, .int .i64 62] (Nat.le_refl _) rfl (by simp [maxLen])
  have R4 := Lib.hid (own_rd O4)
  have B4 := B3.past bx
  replace Hb := Lib.hid (thenB Hb.out bx)
  have C4 := C3.past bx
  have ha : Hid (∀ a, some (⟨w3.heap.size, 0, none⟩ : Addr) = some a → a.block ≠ g) := fun a e => by injection e with e; subst e; exact Nat.ne_of_gt hg3
  clear bx O4 B3 C3
  go_wp2_with fail
  refine (l01Int_any g _ 7 [6, 8, 12, 16, 24, 40, 62] _ C4 R4.out ha (by simp) (by simp)).mono ?_; rintro e w5 ⟨k, rfl, hk, C5, T5⟩
  have B5 := blk_turn B4 T5 (by omega)
  replace Hb := Lib.hid (turn_past Hb.out T5 (by simp; omega) (by omega))
  have c0 := B5.cell 0
  have c1 := B5.cell 1
  have c2 := B5.cell 2
  have f0 := B5.frozen 0
  have f1 := B5.frozen 1
  have f2 := B5.frozen 2
  simp at c0 c1 c2
  clear T5 B4 C4
  go_wp2_with fail
  have D := ((B5.set_ 0 (.int .i64 (1 + v))).set_ 1 (.int .i64 (1 + u))).set_ 2 (.int .i64 k)
  have d0 := D.cell 0
  have d1 := D.cell 1
  have d2 := D.cell 2
  simp at d0 d1 d2
  refine bodyPost_ret (MakeComb_res rfl d0 d1 d2) rfl ?_
  obtain ⟨j, hj⟩ : ∃ j : Nat, 1 + v = j := ⟨(1 + v).toNat, by omega⟩
  obtain ⟨i, hi⟩ : ∃ i : Nat, 1 + u = i := ⟨(1 + u).toNat, by omega⟩
  have hkb : 6 ≤ k ∧ k ≤ 62 := by simp at hk; omega
  obtain ⟨l, hl⟩ : ∃ l : Nat, k = l := ⟨k.toNat, by omega⟩
  exact ⟨j, i, l, by rw [hj, hi, hl], by omega, by omega, by omega, by omega, by omega, by omega, ((Hb.out.setCell (by simp) _).setCell (by simp) _).setCell (by simp) _⟩
end Go.Proofs.Ytfplecbacgcjgaa
