/- Generators under the cursor: a memory of any modulator. (Printed by mkgenb6.py.) -/
import Derived.Test.YtgkijkenbjjnmaaGreatDoorGenB5
namespace Go.Proofs.YtgkijkenbjjnmaaGreatDoor
open Go.RowKit
set_option linter.unusedVariables false
set_option linter.unusedSimpArgs false
set_option maxRecDepth 100000 in
set_option maxHeartbeats 2000000 in
theorem l3Memory_any (g : Nat) (l s : Int) (A : Option Addr) (c n : Nat) (w : World) (hc : Cur w g) (hn : n ≤ 1000) :
    Calls Tryz.prog 111 #[.pointer (some ⟨g, 0, none⟩), .agg #[.int .i64 l, .int .i64 s, .slice A n c]] w (RetGen (fun xs => xs.length ≤ 1100) g w) := by
  have hgl := hc.lt
  have HM := Lib.hid make_ints
  obtain ⟨w1, hw1⟩ : ∃ W, W = w.alloc (.cells #[.int .i64 l, .int .i64 s, .slice A n c] 27) := ⟨_, rfl⟩
  have z1 : w.heap.size + 1 ≤ w1.heap.size := by rw [hw1]; simp
  have B1 : Blk w1 w.heap.size 27 #[.int .i64 l, .int .i64 s, .slice A n c] := by rw [hw1]; exact Blk.new w 27 #[.int .i64 l, .int .i64 s, .slice A n c]
  have G1 : Gs w g w1 := by rw [hw1]; exact (Gs.start hc).past ((Below.refl _ _).alloc (Nat.le_refl _) _)
  have HW := Lib.hid hw1
  have bx : Below w1.heap.size w1 (w1.alloc (.cells #[] 3)) := (Below.refl _ _).alloc (Nat.le_refl _) _
  have B2 := Lib.hid (B1.past bx)
  have G2 := Lib.hid (G1.past bx)
  have O2 : Hid (Own (w1.alloc (.cells #[] 3)) (w.heap.size + 1) (some ⟨w1.heap.size, 0, none⟩) 0 []) := own_empty w1 (w.heap.size + 1) (by omega)
  have q2 := B2.out.cell 2
  simp at q2
  clear hc hw1 bx B1 G1
  go_enter Tryz.func111, Tryz.ntmps111
  go_upto_region 1 with fail
  rw [← HW.out]
  go_wp2_with fail
  go_loopw [5, 10] (fun q i wr => ∃ (k : Nat) (Aq : Option Addr) (cq : Nat) (xs : List Int), i = .int .i64 k ∧ k ≤ n ∧ q = .slice Aq k cq ∧ Hid (xs.length = k) ∧ Hid (Own wr (w.heap.size + 1) Aq cq xs) ∧ Hid (Gs w g wr) ∧ Hid (Blk wr w.heap.size 27 #[.int .i64 l, .int .i64 s, .slice A n c])) (fun _ i _ => n - (intOf i).toNat)
  case atStart => exact ⟨0, _, 0, [], rfl, by omega, rfl, rfl, O2.out, G2.out, B2.out⟩
  case round =>
    clear B2 G2 O2 q2
    obtain ⟨k, Aq, cq, xs, rfl, hk, rfl, hl, hO, hG, hB⟩ := hrel
    by_cases hlt : k < n
    · have bx := (Below.refl wr.heap.size wr).drew
      have GD := hG.out.past bx
      have OD := own_past hO.out bx
      have BD := hB.out.past bx
      have CD := GD.cur
      have e1 := BD.cell 1
      simp at e1
      have zr : w.heap.size + 1 ≤ wr.heap.size := hB.out.lt
      clear bx hG hO hB
      obtain ⟨S, hS⟩ : ∃ S, S = min (max s 1) 1000 := ⟨_, rfl⟩
      have m0 : min (max s 1) 1000 = S := hS.symm
      have m1 : 1 ≤ S ∧ S ≤ 1000 := by omega
      have m3 : IntKind.i64.wrap (2 * S) = 2 * S := Go.IntWalk.i64_in _ (by omega)
      have m4 : IntKind.i64.wrap (2 * S + 1) = 2 * S + 1 := Go.IntWalk.i64_in _ (by omega)
      clear hS
      go_wp2_with fail
      go_region_law
        (first
          | (refine step_app (by rfl) (.tmp 12) (.tmp 28) (by rfl) (w.heap.size + 1) Aq cq k xs hl.out (by rfl) OA w7.heap.size (v - S) (by rfl) (by simp) (by omega) (by have := BA.lt; simp at this ⊢; omega) ?_; intro A8 c8 w8 O8 hw8 mv8; have LA := own_lo OA; have G8 := Lib.hid (GA.wrote hw8 (lo_le LA (by omega))); have B8 := Lib.hid (blk_wrote BA hw8 LA (by omega)))
          | (go_simp; go_at_call 40; refine (l01Below_any g _ _ CD (by omega) (by omega)).mono ?_; rintro e w7 ⟨v, rfl, v1, v2, C7, T7⟩; have G7 := GD.turn C7 T7; have B7 := blk_turn BD T7 (by omega); have O7 := own_turn OD T7 (by omega); have j1 := B7.cell 1; simp at j1; have sv : IntKind.i64.wrap (v - S) = v - S := Go.IntWalk.i64_in _ (by omega); have by_ : Below w7.heap.size w7 (w7.alloc (.cells #[.int .i64 (v - S)] 3)) := (Below.refl _ _).alloc (Nat.le_refl _) _; have OA := own_past O7 by_; have GA := G7.past by_; have BA := B7.past by_))
      all_goals
        have hl8 : Hid ((xs ++ [v - S]).length = k + 1) := by show _ = _; rw [List.length_append, hl.out]; rfl
        have O9 := Lib.hid O8
        clear OA GA BA O8 hw8 mv8 G7 B7 O7 j1 by_ C7 T7 LA e1 CD BD OD GD
        go_wp2
        go_roundw
        case rel => exact ⟨k + 1, A8, c8, xs ++ [v - S], by go_num, by omega, by go_num, hl8.out, O9.out, G8.out, B8.out⟩
        case measure => simp [intOf]; omega
    · obtain rfl : k = n := by omega
      have HG := hG
      have HO := hO
      have HB := hB
      clear hG hO hB hlt hk
      by_cases hz : 0 < k
      · have C := HG.out.cur
        go_wp2_with fail
        refine (l01Once_any g 12 _ C (by omega) (by omega)).mono ?_; rintro e y0 ⟨bb, rfl, C7, T7⟩
        replace HG := Lib.hid (HG.out.turn C7 T7)
        replace HO := Lib.hid (own_turn HO.out T7 (show g < w.heap.size + 1 by omega))
        replace HB := Lib.hid (blk_turn HB.out T7 (by omega))
        clear C C7 T7
        cases bb
        · skip
          have C := HG.out.cur
          go_wp2_with fail
          refine (l01Once_any g 20 _ C (by omega) (by omega)).mono ?_; rintro e y1 ⟨bb, rfl, C7, T7⟩
          replace HG := Lib.hid (HG.out.turn C7 T7)
          replace HO := Lib.hid (own_turn HO.out T7 (show g < w.heap.size + 1 by omega))
          replace HB := Lib.hid (blk_turn HB.out T7 (by omega))
          clear C C7 T7
          cases bb
          · skip
            have C := HG.out.cur
            go_wp2_with fail
            refine (l01Once_any g 2 _ C (by omega) (by omega)).mono ?_; rintro e y2 ⟨bb, rfl, C7, T7⟩
            replace HG := Lib.hid (HG.out.turn C7 T7)
            replace HO := Lib.hid (own_turn HO.out T7 (show g < w.heap.size + 1 by omega))
            replace HB := Lib.hid (blk_turn HB.out T7 (by omega))
            have q2 := HB.out.cell 2
            simp at q2
            have hmk := HM.out (k) (by omega)
            clear C C7 T7
            cases bb
            · skip
              go_wp2_with fail
              go_ret
              have HLx := hl
              exact ⟨Aq, cq, xs, by rw [HLx.out]; rfl, by show _ ≤ _; rw [HLx.out]; omega, own_mono HO.out (by omega), HG.out.cur, HG.out.grown⟩
            · skip
              go_wp2_with fail
              go_ret
              have bx : Below y2.heap.size y2 (y2.alloc (.cells (madeCells #[.int .i64 0] (k)) 3)) := (Below.refl _ _).alloc (Nat.le_refl _) _
              have GZ := HG.out.past bx
              exact ⟨_, k, List.replicate (k) 0, by rw [List.length_replicate]; rfl, by show _ ≤ _; rw [List.length_replicate]; omega, own_made y2 (k) (by have := HB.out.lt; omega) (by simp only [maxLen]; omega), GZ.cur, GZ.grown⟩
          · skip
            have zz : w.heap.size + 1 ≤ y1.heap.size := HB.out.lt
            go_wp2_with (at_builtin; refine app_new rfl (.tmp 49) (.tmp 50) rfl (w.heap.size + 1) Aq cq (k) (xs) 0 (hl).out rfl HO.out rfl (by omega) (by omega) ?_)
            intro A9 c9 y3 O9 hw9 mv9
            replace HG := Lib.hid (HG.out.wrote hw9 (lo_le (own_lo HO.out) (by omega)))
            replace HB := Lib.hid (blk_wrote HB.out hw9 (own_lo HO.out) (by omega))
            replace HO := Lib.hid O9
            have hl9 : Hid (((xs) ++ [0]).length = (k) + 1) := by show _ = _; rw [List.length_append, (hl).out]; rfl
            clear O9 hw9 mv9 zz
            have C := HG.out.cur
            go_wp2_with fail
            refine (l01Once_any g 2 _ C (by omega) (by omega)).mono ?_; rintro e y4 ⟨bb, rfl, C7, T7⟩
            replace HG := Lib.hid (HG.out.turn C7 T7)
            replace HO := Lib.hid (own_turn HO.out T7 (show g < w.heap.size + 1 by omega))
            replace HB := Lib.hid (blk_turn HB.out T7 (by omega))
            have q2 := HB.out.cell 2
            simp at q2
            have hmk := HM.out (k) (by omega)
            clear C C7 T7
            cases bb
            · skip
              go_wp2_with fail
              go_ret
              have HLx := hl9
              exact ⟨A9, c9, (xs) ++ [0], by rw [HLx.out]; rfl, by show _ ≤ _; rw [HLx.out]; omega, own_mono HO.out (by omega), HG.out.cur, HG.out.grown⟩
            · skip
              go_wp2_with fail
              go_ret
              have bx : Below y4.heap.size y4 (y4.alloc (.cells (madeCells #[.int .i64 0] (k)) 3)) := (Below.refl _ _).alloc (Nat.le_refl _) _
              have GZ := HG.out.past bx
              exact ⟨_, k, List.replicate (k) 0, by rw [List.length_replicate]; rfl, by show _ ≤ _; rw [List.length_replicate]; omega, own_made y4 (k) (by have := HB.out.lt; omega) (by simp only [maxLen]; omega), GZ.cur, GZ.grown⟩
        · skip
          have C := HG.out.cur
          obtain ⟨a, rfl, ha1, ha2⟩ := own_head HO.out (show 0 < xs.length by rw [hl.out]; exact hz)
          go_wp2_with fail
          refine (l01Below_any g k _ C (by omega) (by omega)).mono ?_; rintro e x1 ⟨v, rfl, v1, v2, C7, T7⟩
          obtain ⟨j, rfl⟩ : ∃ j : Nat, v = j := ⟨v.toNat, by omega⟩
          have hj : j < k := by omega
          replace HG := Lib.hid (HG.out.turn C7 T7)
          replace HO := Lib.hid (own_turn HO.out T7 (show g < w.heap.size + 1 by omega))
          replace HB := Lib.hid (blk_turn HB.out T7 (by omega))
          clear C T7 v1 v2
          go_wp2_with fail
          refine (lit_pick g [1099511627776, -1099511627776, 1099511627777, -9223372036854775808] x1 C7 (by simp) (by simp)).mono ?_; rintro e x2 ⟨u, rfl, u1, C8, T8⟩
          have GA := HG.out.turn C8 T8
          have OA := own_turn HO.out T8 (show g < w.heap.size + 1 by omega)
          have BA := blk_turn HB.out T8 (by omega)
          have d0 := own_cell OA (show j < xs.length by rw [hl.out]; exact hj)
          have d1 := own_frozen OA j
          have hab : w.heap.size ≤ a := by omega
          have HG9 := Lib.hid (GA.set (b := a) (j := j) hab (.int .i64 u))
          have HO9 := Lib.hid (own_set OA j u)
          have HB9 := Lib.hid (BA.far (p := ⟨a, j, none⟩) (show w.heap.size ≠ a by omega) (.int .i64 u))
          have hl2 : Hid ((xs.set j u).length = k) := by show _ = _; rw [List.length_set, hl.out]
          clear HG HO HB GA OA BA C7 C8 T8 u1
          go_upto_region 8 with fail
          obtain ⟨x3, hx3⟩ : ∃ W, W = x2.setCell ⟨a, j, none⟩ (.int .i64 u) := ⟨_, rfl⟩
          rw [← hx3] at HG9 HO9 HB9 ⊢
          clear hx3 d0 d1
          have HG := HG9
          have HO := HO9
          have HB := HB9
          clear HG9 HO9 HB9
          have C := HG.out.cur
          go_wp2_with fail
          refine (l01Once_any g 20 _ C (by omega) (by omega)).mono ?_; rintro e y5 ⟨bb, rfl, C7, T7⟩
          replace HG := Lib.hid (HG.out.turn C7 T7)
          replace HO := Lib.hid (own_turn HO.out T7 (show g < w.heap.size + 1 by omega))
          replace HB := Lib.hid (blk_turn HB.out T7 (by omega))
          clear C C7 T7
          cases bb
          · skip
            have C := HG.out.cur
            go_wp2_with fail
            refine (l01Once_any g 2 _ C (by omega) (by omega)).mono ?_; rintro e y6 ⟨bb, rfl, C7, T7⟩
            replace HG := Lib.hid (HG.out.turn C7 T7)
            replace HO := Lib.hid (own_turn HO.out T7 (show g < w.heap.size + 1 by omega))
            replace HB := Lib.hid (blk_turn HB.out T7 (by omega))
            have q2 := HB.out.cell 2
            simp at q2
            have hmk := HM.out (k) (by omega)
            clear C C7 T7
            cases bb
            · skip
              go_wp2_with fail
              go_ret
              have HLx := hl2
              exact ⟨(some ⟨a, 0, none⟩), cq, xs.set j u, by rw [HLx.out]; rfl, by show _ ≤ _; rw [HLx.out]; omega, own_mono HO.out (by omega), HG.out.cur, HG.out.grown⟩
            · skip
              go_wp2_with fail
              go_ret
              have bx : Below y6.heap.size y6 (y6.alloc (.cells (madeCells #[.int .i64 0] (k)) 3)) := (Below.refl _ _).alloc (Nat.le_refl _) _
              have GZ := HG.out.past bx
              exact ⟨_, k, List.replicate (k) 0, by rw [List.length_replicate]; rfl, by show _ ≤ _; rw [List.length_replicate]; omega, own_made y6 (k) (by have := HB.out.lt; omega) (by simp only [maxLen]; omega), GZ.cur, GZ.grown⟩
          · skip
            have zz : w.heap.size + 1 ≤ y5.heap.size := HB.out.lt
            go_wp2_with (at_builtin; refine app_new rfl (.tmp 49) (.tmp 50) rfl (w.heap.size + 1) (some ⟨a, 0, none⟩) cq (k) (xs.set j u) 0 (hl2).out rfl HO.out rfl (by omega) (by omega) ?_)
            intro A9 c9 y7 O9 hw9 mv9
            replace HG := Lib.hid (HG.out.wrote hw9 (lo_le (own_lo HO.out) (by omega)))
            replace HB := Lib.hid (blk_wrote HB.out hw9 (own_lo HO.out) (by omega))
            replace HO := Lib.hid O9
            have hl9 : Hid (((xs.set j u) ++ [0]).length = (k) + 1) := by show _ = _; rw [List.length_append, (hl2).out]; rfl
            clear O9 hw9 mv9 zz
            have C := HG.out.cur
            go_wp2_with fail
            refine (l01Once_any g 2 _ C (by omega) (by omega)).mono ?_; rintro e y8 ⟨bb, rfl, C7, T7⟩
            replace HG := Lib.hid (HG.out.turn C7 T7)
            replace HO := Lib.hid (own_turn HO.out T7 (show g < w.heap.size + 1 by omega))
            replace HB := Lib.hid (blk_turn HB.out T7 (by omega))
            have q2 := HB.out.cell 2
            simp at q2
            have hmk := HM.out (k) (by omega)
            clear C C7 T7
            cases bb
            · skip
              go_wp2_with fail
              go_ret
              have HLx := hl9
              exact ⟨A9, c9, (xs.set j u) ++ [0], by rw [HLx.out]; rfl, by show _ ≤ _; rw [HLx.out]; omega, own_mono HO.out (by omega), HG.out.cur, HG.out.grown⟩
            · skip
              go_wp2_with fail
              go_ret
              have bx : Below y8.heap.size y8 (y8.alloc (.cells (madeCells #[.int .i64 0] (k)) 3)) := (Below.refl _ _).alloc (Nat.le_refl _) _
              have GZ := HG.out.past bx
              exact ⟨_, k, List.replicate (k) 0, by rw [List.length_replicate]; rfl, by show _ ≤ _; rw [List.length_replicate]; omega, own_made y8 (k) (by have := HB.out.lt; omega) (by simp only [maxLen]; omega), GZ.cur, GZ.grown⟩
      · skip
        have C := HG.out.cur
        go_wp2_with fail
        refine (l01Once_any g 20 _ C (by omega) (by omega)).mono ?_; rintro e y9 ⟨bb, rfl, C7, T7⟩
        replace HG := Lib.hid (HG.out.turn C7 T7)
        replace HO := Lib.hid (own_turn HO.out T7 (show g < w.heap.size + 1 by omega))
        replace HB := Lib.hid (blk_turn HB.out T7 (by omega))
        clear C C7 T7
        cases bb
        · skip
          have C := HG.out.cur
          go_wp2_with fail
          refine (l01Once_any g 2 _ C (by omega) (by omega)).mono ?_; rintro e y10 ⟨bb, rfl, C7, T7⟩
          replace HG := Lib.hid (HG.out.turn C7 T7)
          replace HO := Lib.hid (own_turn HO.out T7 (show g < w.heap.size + 1 by omega))
          replace HB := Lib.hid (blk_turn HB.out T7 (by omega))
          have q2 := HB.out.cell 2
          simp at q2
          have hmk := HM.out (k) (by omega)
          clear C C7 T7
          cases bb
          · skip
            go_wp2_with fail
            go_ret
            have HLx := hl
            exact ⟨Aq, cq, xs, by rw [HLx.out]; rfl, by show _ ≤ _; rw [HLx.out]; omega, own_mono HO.out (by omega), HG.out.cur, HG.out.grown⟩
          · skip
            go_wp2_with fail
            go_ret
            have bx : Below y10.heap.size y10 (y10.alloc (.cells (madeCells #[.int .i64 0] (k)) 3)) := (Below.refl _ _).alloc (Nat.le_refl _) _
            have GZ := HG.out.past bx
            exact ⟨_, k, List.replicate (k) 0, by rw [List.length_replicate]; rfl, by show _ ≤ _; rw [List.length_replicate]; omega, own_made y10 (k) (by have := HB.out.lt; omega) (by simp only [maxLen]; omega), GZ.cur, GZ.grown⟩
        · skip
          have zz : w.heap.size + 1 ≤ y9.heap.size := HB.out.lt
          go_wp2_with (at_builtin; refine app_new rfl (.tmp 49) (.tmp 50) rfl (w.heap.size + 1) Aq cq (k) (xs) 0 (hl).out rfl HO.out rfl (by omega) (by omega) ?_)
          intro A9 c9 y11 O9 hw9 mv9
          replace HG := Lib.hid (HG.out.wrote hw9 (lo_le (own_lo HO.out) (by omega)))
          replace HB := Lib.hid (blk_wrote HB.out hw9 (own_lo HO.out) (by omega))
          replace HO := Lib.hid O9
          have hl9 : Hid (((xs) ++ [0]).length = (k) + 1) := by show _ = _; rw [List.length_append, (hl).out]; rfl
          clear O9 hw9 mv9 zz
          have C := HG.out.cur
          go_wp2_with fail
          refine (l01Once_any g 2 _ C (by omega) (by omega)).mono ?_; rintro e y12 ⟨bb, rfl, C7, T7⟩
          replace HG := Lib.hid (HG.out.turn C7 T7)
          replace HO := Lib.hid (own_turn HO.out T7 (show g < w.heap.size + 1 by omega))
          replace HB := Lib.hid (blk_turn HB.out T7 (by omega))
          have q2 := HB.out.cell 2
          simp at q2
          have hmk := HM.out (k) (by omega)
          clear C C7 T7
          cases bb
          · skip
            go_wp2_with fail
            go_ret
            have HLx := hl9
            exact ⟨A9, c9, (xs) ++ [0], by rw [HLx.out]; rfl, by show _ ≤ _; rw [HLx.out]; omega, own_mono HO.out (by omega), HG.out.cur, HG.out.grown⟩
          · skip
            go_wp2_with fail
            go_ret
            have bx : Below y12.heap.size y12 (y12.alloc (.cells (madeCells #[.int .i64 0] (k)) 3)) := (Below.refl _ _).alloc (Nat.le_refl _) _
            have GZ := HG.out.past bx
            exact ⟨_, k, List.replicate (k) 0, by rw [List.length_replicate]; rfl, by show _ ≤ _; rw [List.length_replicate]; omega, own_made y12 (k) (by have := HB.out.lt; omega) (by simp only [maxLen]; omega), GZ.cur, GZ.grown⟩
end Go.Proofs.YtgkijkenbjjnmaaGreatDoor
