/- Generators under the cursor: an input for a modulator. -/
import Derived.Test.YtgkijkenbjjnmaaGreatDoorGenB4
namespace Go.Proofs.YtgkijkenbjjnmaaGreatDoor
open Go.RowKit
set_option linter.unusedVariables false
set_option linter.unusedSimpArgs false
set_option maxHeartbeats 1000000 in
theorem l3Input_any (g : Nat) (l s : Int) (A : Option Addr) (c : Nat) (cs : List Int) (w : World) (hc : Cur w g) (hr : Rd w w.heap.size A cs) (hA : ∀ a, A = some a → a.block ≠ g) (hn : cs.length ≤ 1000) :
    Calls Tryz.prog 112 #[.pointer (some ⟨g, 0, none⟩), .agg #[.int .i64 l, .int .i64 s, .slice A cs.length c]] w (RetGen (fun xs => xs.length ≤ 1100) g w) := by
  have hgl := hc.lt
  have bx : Below w.heap.size w (w.alloc (.cells #[.int .i64 l, .int .i64 s, .slice A cs.length c] 27)) := (Below.refl _ _).alloc (Nat.le_refl _) _
  have B0 := Blk.new w 27 #[.int .i64 l, .int .i64 s, .slice A cs.length c]
  have G := (Gs.start hc).past bx
  have R := hr.past bx
  clear bx hc hr
  go_enter Tryz.func112, Tryz.ntmps112
  go_wp2_with fail
  refine (l01Once_any g 8 _ G.cur (by omega) (by omega)).mono ?_; rintro e w1 ⟨b, rfl, C1, T1⟩
  replace B0 := blk_turn B0 T1 (by omega)
  replace R := (R.grown T1 (Nat.le_refl _) (fun a e e' => hA a e (Option.some.inj e'))).more T1.size
  replace G := G.turn C1 T1
  clear T1
  cases b
  · have q0 := B0.cell 0; have q1 := B0.cell 1; have q2 := B0.cell 2
    simp at q0 q1 q2
    go_wp2_with fail
    refine (specSafe_any l s A c cs _ R (by omega)).mono ?_; rintro e w2 ⟨⟨v, rfl⟩, h2⟩
    have G2 := Lib.hid (G.past h2)
    have C2 := G2.out.cur
    clear h2 G C1 B0 R q0 q1 q2
    obtain hv | hv | hv : v ≤ 1 ∨ (1 < v ∧ v < 1000) ∨ 1000 ≤ v := by omega
    · have m1 : decide (v < 1000) = true := by simp; omega
      have m2 : decide (1000 < v) = false := by simp; omega
      have m3 : decide (1 < v) = false := by simp; omega
      have m4 : ¬ (1 < v) := by omega
      have m5 : v < 1000 := by omega
      have m6 : ¬ (1000 < v) := by omega
      go_wp2_with fail
      refine (l01Once_any g 3 _ C2 (by omega) (by omega)).mono ?_; rintro e w3 ⟨b, rfl, C3, T3⟩
      have G3 := Lib.hid (G2.out.turn C3 T3)
      clear T3 G2 C2
      cases b
      all_goals
        go_wp2_with fail
        refine (l1Small_any g 20 _ _ C3 (by omega) (by omega) (by omega) (by omega)).mono ?_; rintro e w4 ⟨A2, c2, xs, rfl, hS, O2, C4, T4⟩
        have hx : xs.length ≤ 1100 := by have := hS.1; omega
        have G4 := Lib.hid (G3.out.turn C4 T4)
        have HO := Lib.hid (own_mono O2 G3.out.size)
        clear T4 O2 C3
        go_wp2_with fail
        go_ret
        exact ⟨A2, c2, xs, rfl, hx, HO.out, G4.out.cur, G4.out.grown⟩
    · have m5 : v < 1000 := by omega
      have m4 : 1 < v := by omega
      have m6 : ¬ (1000 < v) := by omega
      have m7 : ¬ (v < 1) := by omega
      go_wp2_with fail
      refine (l01Once_any g 3 _ C2 (by omega) (by omega)).mono ?_; rintro e w3 ⟨b, rfl, C3, T3⟩
      have G3 := Lib.hid (G2.out.turn C3 T3)
      clear T3 G2 C2
      cases b
      all_goals
        go_wp2_with fail
        refine (l1Small_any g 20 _ _ C3 (by omega) (by omega) (by omega) (by omega)).mono ?_; rintro e w4 ⟨A2, c2, xs, rfl, hS, O2, C4, T4⟩
        have hx : xs.length ≤ 1100 := by have := hS.1; omega
        have G4 := Lib.hid (G3.out.turn C4 T4)
        have HO := Lib.hid (own_mono O2 G3.out.size)
        clear T4 O2 C3
        go_wp2_with fail
        go_ret
        exact ⟨A2, c2, xs, rfl, hx, HO.out, G4.out.cur, G4.out.grown⟩
    · have m5 : ¬ (v < 1000) := by omega
      have m4 : 1 < v := by omega
      have m7 : ¬ (v < 1) := by omega
      go_wp2_with fail
      refine (l01Once_any g 3 _ C2 (by omega) (by omega)).mono ?_; rintro e w3 ⟨b, rfl, C3, T3⟩
      have G3 := Lib.hid (G2.out.turn C3 T3)
      clear T3 G2 C2
      cases b
      all_goals
        go_wp2_with fail
        refine (l1Small_any g 20 _ _ C3 (by omega) (by omega) (by omega) (by omega)).mono ?_; rintro e w4 ⟨A2, c2, xs, rfl, hS, O2, C4, T4⟩
        have hx : xs.length ≤ 1100 := by have := hS.1; omega
        have G4 := Lib.hid (G3.out.turn C4 T4)
        have HO := Lib.hid (own_mono O2 G3.out.size)
        clear T4 O2 C3
        go_wp2_with fail
        go_ret
        exact ⟨A2, c2, xs, rfl, hx, HO.out, G4.out.cur, G4.out.grown⟩
  · go_wp2_with fail
    refine (l1Any_any g 14 _ C1 (by omega) (by omega)).mono ?_; rintro e w2 ⟨A2, c2, xs, rfl, hx, O2, C2, T2⟩
    have G2 := Lib.hid (G.turn C2 T2)
    have HO := Lib.hid (own_mono O2 G.size)
    clear T2 O2 C1 B0
    go_wp2_with fail
    go_ret
    exact ⟨A2, c2, xs, rfl, hx, HO.out, G2.out.cur, G2.out.grown⟩
end Go.Proofs.YtgkijkenbjjnmaaGreatDoor
