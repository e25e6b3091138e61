/- Generators under the cursor: a line. (Printed by mkgenb9.py.) -/
import Derived.Test.YtgkijkenbjjnmaaGreatDoorGenB4
import Derived.Test.YtgkijkenbjjnmaaGreatDoorFmtM
namespace Go.Proofs.YtgkijkenbjjnmaaGreatDoor
open Go.RowKit
set_option linter.unusedVariables false
set_option linter.unusedSimpArgs false
theorem fmtMI_le (l s : Int) (cs : List Int) : (fmtMI l s cs).length ≤ 30100 := by
  unfold fmtMI
  split
  · rename_i h
    have m := mod_parts h
    have q := quant_parts m.2.1
    have d1 := decI_le (n := l) (by omega) (by omega)
    have d2 := decI_le (n := s) (by omega) (by omega)
    have hs : seqOk cs = true := seqOk_of (fun x hx => by have := m.1 x hx; omega) (by omega)
    have d3 := fmtL_le hs
    simp [fmtM, modT]
    omega
  · simp
theorem fmtI_le (xs : List Int) : (fmtI xs).length ≤ 30000 := by
  unfold fmtI
  split
  · rename_i h; exact fmtL_le h
  · simp
theorem pick_le {xs : List ByteArray} {t : ByteArray} (h : t ∈ xs) (hx : xs.all (fun u => decide (u.size ≤ 100)) = true) : t.size ≤ 100 := by
  have := List.all_eq_true.1 hx t h
  simpa using this
def RetLn (g : Nat) (w : World) (e : Ending) (w' : World) : Prop := ∃ t : ByteArray, e = .returned (.string t) ∧ t.size ≤ 100000 ∧ Cur w' g ∧ w.grownBy w' (some g)
set_option maxRecDepth 100000 in
set_option maxHeartbeats 2000000 in
theorem l7Line_any (g : Nat) (w : World) (hc : Cur w g) : Calls Tryz.prog 68 #[.pointer (some ⟨g, 0, none⟩)] w (RetLn g w) := by
  have hgl := hc.lt
  have G0 := Gs.start hc
  go_enter Tryz.func68, Tryz.ntmps68
  go_wp2_with fail
  refine (l01Below_any g 6 _ hc (by omega) (by omega)).mono ?_; rintro e w1 ⟨v, rfl, v1, v2, C1, T1⟩
  have G1 := Lib.hid (G0.turn C1 T1)
  clear G0 T1 hc
  obtain rfl | rfl | rfl | rfl | rfl | rfl : v = 0 ∨ v = 1 ∨ v = 2 ∨ v = 3 ∨ v = 4 ∨ v = 5 := by omega
  · go_wp2_with fail
    refine (l3Any_any g _ C1).mono ?_; rintro e w2 ⟨l, s, x, A, c, rfl, hX, O, C2, T2⟩
    have G2 := Lib.hid (G1.out.turn C2 T2)
    have hcp := own_cap O
    have hmx : c ≤ 9223372036854775807 := by have := hcp.2; unfold maxLen at this; exact this
    have hle := hcp.1
    have HO := Lib.hid O
    have HT := Lib.hid (fmtMI_le l s x)
    clear C1 C2 T2 O hcp G1
    go_wp2_with fail
    refine (specFormatM_any l s A c x _ (own_rd HO.out) (by omega) hle hmx).mono ?_; rintro e w3 ⟨rfl, h⟩
    have G3 := Lib.hid (G2.out.past h)
    clear h
    go_wp2_with fail
    go_ret
    exact ⟨_, rfl, by rw [bs_size]; have := HT.out; omega, G3.out.cur, G3.out.grown⟩
  · go_wp2_with fail
    refine (lit_pickS g [ByteArray.mk #[105, 110, 32], ByteArray.mk #[109, 111, 114, 101, 32]] w1 C1 (by simp) (by simp)).mono ?_; rintro e w2 ⟨t, rfl, ht, C2, T2⟩
    have HT := Lib.hid (pick_le ht (by decide))
    have G2 := Lib.hid (G1.out.turn C2 T2)
    clear C1 T2 ht G1
    go_wp2_with fail
    refine (l1Small_any g 10 20 _ C2 (by omega) (by omega) (by omega) (by omega)).mono ?_; rintro e w3 ⟨A, c, x, rfl, hS, O, C3, T3⟩
    have hx : x.length ≤ 1000 := by have := hS.1; omega
    have G3 := Lib.hid (G2.out.turn C3 T3)
    have hcp := own_cap O
    have hmx : c ≤ 9223372036854775807 := by have := hcp.2; unfold maxLen at this; exact this
    have hle := hcp.1
    have HO := Lib.hid O
    have HF := Lib.hid (fmtI_le x)
    clear C2 C3 T3 O hcp G2 hS
    go_wp2_with fail
    refine (specFormat_any A c x _ (own_rd HO.out) (by omega) hle hmx).mono ?_; rintro e w4 ⟨rfl, h⟩
    have G4 := Lib.hid (G3.out.past h)
    have hsz : t.size + (bs (fmtI x)).size ≤ 40000 := by rw [bs_size]; have := HT.out; have := HF.out; omega
    have a1 := fun W : World => run_string_add_sum (P := Tryz.prog) W t (bs (fmtI x)) (by omega)
    clear h
    go_wp2_with fail
    go_ret
    exact ⟨_, rfl, by rw [ByteArray.size_append, bs_size]; have := HT.out; have := HF.out; omega, G4.out.cur, G4.out.grown⟩
  · go_wp2_with fail
    go_ret
    exact ⟨_, rfl, by decide, G1.out.cur, G1.out.grown⟩
  · go_wp2_with fail
    refine (lit_pickS g [ByteArray.mk #[115, 104, 97, 112, 101], ByteArray.mk #[109, 101, 109, 111, 114, 121], ByteArray.mk #[111, 117, 116, 112, 117, 116], ByteArray.mk #[101, 114, 114, 111, 114, 115], ByteArray.mk #[105, 110, 112, 117, 116], ByteArray.mk #[115, 97, 102, 101], ByteArray.mk #[115, 117, 109], ByteArray.mk #[98, 105, 116, 115], ByteArray.mk #[112, 111, 119, 101, 114]] w1 C1 (by simp) (by simp)).mono ?_; rintro e w2 ⟨t, rfl, ht, C2, T2⟩
    have HT := Lib.hid (pick_le ht (by decide))
    have G2 := Lib.hid (G1.out.turn C2 T2)
    clear C1 T2 ht G1
    go_wp2_with fail
    go_ret
    exact ⟨_, rfl, Nat.le_trans HT.out (by omega), G2.out.cur, G2.out.grown⟩
  · go_wp2_with fail
    refine (lit_pickS g [ByteArray.mk #[99, 108, 101, 97, 114], ByteArray.mk #[114, 117, 110], ByteArray.mk #[105, 110, 32, 46], ByteArray.mk #[109, 111, 114, 101, 32, 49, 44, 50, 44, 51]] w1 C1 (by simp) (by simp)).mono ?_; rintro e w2 ⟨t, rfl, ht, C2, T2⟩
    have HT := Lib.hid (pick_le ht (by decide))
    have G2 := Lib.hid (G1.out.turn C2 T2)
    clear C1 T2 ht G1
    go_wp2_with fail
    go_ret
    exact ⟨_, rfl, Nat.le_trans HT.out (by omega), G2.out.cur, G2.out.grown⟩
  · go_wp2_with fail
    refine (lit_pickS g [ByteArray.mk #[], ByteArray.mk #[105, 110], ByteArray.mk #[105, 110, 32, 49, 44, 44, 50], ByteArray.mk #[109, 111, 114, 101], ByteArray.mk #[114, 117, 110, 32], ByteArray.mk #[32, 114, 117, 110], ByteArray.mk #[109, 111, 100], ByteArray.mk #[109, 111, 100, 32, 50, 32, 49, 54, 32, 46], ByteArray.mk #[105, 110, 32, 49, 32, 50], ByteArray.mk #[98, 105, 116], ByteArray.mk #[109, 111, 114, 101, 32, 49, 48, 57, 57, 53, 49, 49, 54, 50, 55, 55, 55, 55]] w1 C1 (by simp) (by simp)).mono ?_; rintro e w2 ⟨t, rfl, ht, C2, T2⟩
    have HT := Lib.hid (pick_le ht (by decide))
    have G2 := Lib.hid (G1.out.turn C2 T2)
    clear C1 T2 ht G1
    go_wp2_with fail
    go_ret
    exact ⟨_, rfl, Nat.le_trans HT.out (by omega), G2.out.cur, G2.out.grown⟩
def RetLx (w : World) (e : Ending) (w' : World) : Prop := ∃ t : ByteArray, e = .returned (.string t) ∧ t.size ≤ 100000 ∧ Below w.heap.size w w'
set_option maxHeartbeats 1000000 in
theorem MakeLine_any (A : Option Addr) (c n : Nat) (w : World) (hr : RdB w w.heap.size A n) (hn : n ≤ 4294967296) : Calls Tryz.prog 25 #[.slice A n c] w (RetLx w) := by
  go_enter Tryz.func25, Tryz.ntmps25
  go_wp2_with fail
  refine (l01New_any A c n _ hr hn).mono ?_; rintro e w2 ⟨g, rfl, hg, C2, h2⟩
  go_wp2_with fail
  refine (l7Line_any g _ C2).mono ?_; rintro e w3 ⟨t, rfl, ht, C3, T3⟩
  have Hb := Lib.hid (turn_past h2 T3 h2.size hg)
  clear h2 T3 C2 C3
  go_wp2_with fail
  go_ret
  exact ⟨_, rfl, ht, Hb.out⟩
end Go.Proofs.YtgkijkenbjjnmaaGreatDoor
