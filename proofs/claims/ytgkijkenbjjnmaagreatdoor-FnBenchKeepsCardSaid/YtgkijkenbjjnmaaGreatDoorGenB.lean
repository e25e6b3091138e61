/- Generators under the cursor, for any results: values, sequences, texts picked from a list. -/
import Derived.Test.YtgkijkenbjjnmaaGreatDoorGen
import Derived.Test.YtgkijkenbjjnmaaGreatDoorMkMod2
import Derived.Test.YtgkijkenbjjnmaaGreatDoorSplS
namespace Go.Proofs.YtgkijkenbjjnmaaGreatDoor
open Go.RowKit
set_option linter.unusedVariables false
set_option linter.unusedSimpArgs false
/-- From W on, with the cursor at g: nothing but the cursor's block has turned, of what there was. -/
structure Gs (W : World) (g : Nat) (w : World) : Prop where
  cur : Cur w g
  grown : W.grownBy w (some g)
  lt : g < W.heap.size
theorem Gs.start {W : World} {g : Nat} (h : Cur W g) : Gs W g W := ⟨h, turn_refl W g, h.lt⟩
theorem Gs.turn {W w w' : World} {g : Nat} (h : Gs W g w) (C : Cur w' g) (T : w.grownBy w' (some g)) : Gs W g w' := ⟨C, h.grown.trans T, h.lt⟩
theorem Gs.past {W w w' : World} {g : Nat} (h : Gs W g w) (hb : Below w.heap.size w w') : Gs W g w' := ⟨h.cur.past hb, h.grown.trans (turn_below hb _), h.lt⟩
theorem Gs.wrote {W w w' : World} {g : Nat} {A : Option Addr} (h : Gs W g w) (hw : Wrote w w' A) (hl : Lo A W.heap.size) : Gs W g w' := ⟨h.cur.wrote hw hl h.lt, turn_new h.grown hw hl, h.lt⟩
theorem Gs.size {W w : World} {g : Nat} (h : Gs W g w) : W.heap.size ≤ w.heap.size := h.grown.size
theorem Gs.set {W w : World} {g b j : Nat} (h : Gs W g w) (hb : W.heap.size ≤ b) (v : Value) : Gs W g (w.setCell ⟨b, j, none⟩ v) := by
  have hT := turn_set (turn_refl w b) (p := ⟨b, j, none⟩) rfl v
  refine ⟨cur_turn h.cur hT (Nat.lt_of_lt_of_le h.lt hb), ?_, h.lt⟩
  refine ⟨hT.os.trans h.grown.os, hT.tape.trans h.grown.tape, hT.output.trans h.grown.output, Nat.le_trans h.grown.size hT.size, fun i hi hne => (hT.block i (Nat.lt_of_lt_of_le hi h.grown.size) (fun e => by have := Option.some.inj e; omega)).trans (h.grown.block i hi hne)⟩
def RetV (g : Nat) (w : World) (e : Ending) (w' : World) : Prop := ∃ v : Int, e = .returned (.int .i64 v) ∧ Cur w' g ∧ w.grownBy w' (some g)
theorem lit_pick (g : Nat) (xs : List Int) (w : World) (hc : Cur w g) (n1 : 1 ≤ xs.length) (n2 : xs.length ≤ 1000) :
    Calls Tryz.prog 85 #[.pointer (some ⟨g, 0, none⟩), .slice (some ⟨w.heap.size, 0, none⟩) xs.length xs.length] (w.alloc (.cells (ints xs).toArray 3)) (RetPick xs g w) := by
  have bx : Below w.heap.size w (w.alloc (.cells (ints xs).toArray 3)) := (Below.refl _ _).alloc (Nat.le_refl _) _
  have O := own_cells (xs := xs) w (ints xs).toArray (Nat.le_refl _) (by simp) (by simp only [maxLen]; omega)
  have hg := hc.lt
  refine (l01Int_any g _ xs.length xs _ (hc.past bx) (own_rd O) (fun a e => by injection e with e; subst e; exact Nat.ne_of_gt hg) n1 (by omega)).mono ?_
  rintro e w' ⟨v, rfl, hv, C, T⟩
  exact ⟨v, rfl, hv, C, (turn_below bx _).trans T⟩
set_option maxHeartbeats 1000000 in
theorem l1Value_any (g : Nat) (w : World) (hc : Cur w g) : Calls Tryz.prog 153 #[.pointer (some ⟨g, 0, none⟩)] w (RetV g w) := by
  go_enter Tryz.func153, Tryz.ntmps153
  go_wp2_with fail
  refine (l01Once_any g 12 _ hc (by omega) (by omega)).mono ?_; rintro e w1 ⟨b, rfl, C1, T1⟩
  cases b
  · go_wp2_with fail
    refine (l01Below_any g 201 _ C1 (by omega) (by omega)).mono ?_; rintro e w2 ⟨v, rfl, v1, v2, C2, T2⟩
    go_wp2_with fail
    go_ret
    exact ⟨_, rfl, C2, T1.trans T2⟩
  · go_wp2_with fail
    refine (lit_pick g [1099511627776, -1099511627776, 1099511627775, 549755813888, -549755813889, 549755813888] w1 C1 (by simp) (by simp)).mono ?_; rintro e w2 ⟨v, rfl, v1, C2, T2⟩
    go_wp2_with fail
    go_ret
    exact ⟨_, rfl, C2, T1.trans T2⟩
set_option maxRecDepth 100000 in
set_option maxHeartbeats 2000000 in
theorem l1Any_any (g : Nat) (m : Int) (w : World) (hc : Cur w g) (m0 : 0 ≤ m) (m1 : m ≤ 100) : Calls Tryz.prog 140 #[.pointer (some ⟨g, 0, none⟩), .int .i64 m] w (RetGen (fun xs => xs.length ≤ 1100) g w) := by
  have hgl := hc.lt
  have hb0 : Below w.heap.size w (w.alloc (.cells #[] 3)) := (Below.refl _ _).alloc (Nat.le_refl _) _
  have O0 := own_empty w w.heap.size (Nat.le_refl _)
  have G0 := (Gs.start hc).past hb0
  clear hb0 hc
  go_enter Tryz.func140, Tryz.ntmps140
  go_wp2_with fail
  refine (l01Below_any g _ _ G0.cur (by omega) (by omega)).mono ?_; rintro e w1 ⟨v, rfl, v1, v2, C1, T1⟩
  obtain ⟨j, rfl⟩ : ∃ j : Nat, v = j := ⟨v.toNat, by omega⟩
  have O1 := Lib.hid (own_turn O0 T1 hgl)
  have G1 := Lib.hid (G0.turn C1 T1)
  clear O0 G0 T1 C1
  go_wp2_with fail
  go_loopw [5, 6] (fun q i wr => ∃ (k : Nat) (Aq : Option Addr) (cq : Nat) (xs : List Int), i = .int .i64 k ∧ (k : Int) + xs.length ≤ m ∧ q = .slice Aq xs.length cq ∧ Hid (Own wr w.heap.size Aq cq xs) ∧ Hid (Gs w g wr)) (fun _ i _ => (intOf i).toNat)
  case atStart => exact ⟨j, _, 0, [], rfl, by simp; omega, rfl, O1.out, G1.out⟩
  case round =>
    clear O1 G1
    obtain ⟨k, Aq, cq, xs, rfl, hk, rfl, hO, hG⟩ := hrel
    by_cases hlt : 0 < k
    · have hxl : xs.length ≤ 100 := by omega
      have C := hG.out.cur
      go_wp2_with fail
      refine (l1Value_any g _ C).mono ?_; rintro e w2 ⟨v, rfl, C2, T2⟩
      have O2 := own_turn hO.out T2 hgl
      have G2 := hG.out.turn C2 T2
      clear hG T2 hO C C2
      go_wp2_with (at_builtin; refine app_new rfl (.tmp 16) (.tmp 19) rfl w.heap.size Aq cq xs.length xs _ rfl rfl O2 rfl (by omega) G2.size ?_)
      intro A3 c3 w3 O3 hw3 mv3
      have G3 := Lib.hid (G2.wrote hw3 (own_lo O2))
      have OO3 := Lib.hid O3
      have hl3 : Hid ((xs ++ [v]).length = xs.length + 1) := by simp [Hid]
      clear O3 hw3 mv3 O2 G2
      go_wp2
      go_roundw
      case rel => exact ⟨k - 1, A3, c3, xs ++ [v], by go_num, by rw [hl3.out]; omega, by rw [hl3.out], OO3.out, G3.out⟩
      case measure => simp [intOf]; omega
    · obtain rfl : k = 0 := by omega
      have hxl : xs.length ≤ 100 := by omega
      have C := hG.out.cur
      have HM : Hid (∀ n : Nat, n ≤ 1099511627776 → ∀ W : World, (Instr.makeSlice 25 (.int .i64 (n : Int)) (.int .i64 (n : Int))).run Tryz.prog W = .ok (.slice (some ⟨W.heap.size, 0, none⟩) n n) (W.alloc (.cells (madeCells #[.int .i64 0] n) 3))) := make_ints
      clear hlt
      go_wp2_with fail
      refine (l01Once_any g 25 _ C (by omega) (by omega)).mono ?_; rintro e w2 ⟨b, rfl, C2, T2⟩
      have O2 := own_turn hO.out T2 hgl
      have G2 := hG.out.turn C2 T2
      clear hG T2 hO C
      have HE : Hid (∀ (A : Option Addr) (c : Nat) (ys : List Int) (W : World), ys.length ≤ 200 → Own W w.heap.size A c ys → Gs w g W → True) := fun _ _ _ _ _ _ _ => trivial
      cases b
      · go_wp2_with fail
        refine (l01Once_any g 80 _ C2 (by omega) (by omega)).mono ?_; rintro e w3 ⟨b, rfl, C3, T3⟩
        have O3 := Lib.hid (own_turn O2 T3 hgl)
        have G3 := Lib.hid (G2.turn C3 T3)
        clear T3 O2 G2 C2
        cases b
        · go_wp2_with fail
          go_ret
          exact ⟨Aq, cq, xs, rfl, by omega, O3.out, G3.out.cur, G3.out.grown⟩
        · go_wp2_with fail
          refine (l01Below_any g 2 _ C3 (by omega) (by omega)).mono ?_; rintro e w4 ⟨v, rfl, v1, v2, C4, T4⟩
          obtain ⟨q, hq⟩ : ∃ q : Nat, 1000 + v = q := ⟨(1000 + v).toNat, by omega⟩
          have hq2 : q ≤ 1001 := by omega
          have hmk := HM.out q (by omega)
          have G4 := Lib.hid (G3.out.turn C4 T4)
          clear T4 C4 C3 v1 v2
          go_wp2_with fail
          go_ret
          have bx : Below w4.heap.size w4 (w4.alloc (.cells (madeCells #[.int .i64 0] q) 3)) := (Below.refl _ _).alloc (Nat.le_refl _) _
          have G5 := G4.out.past bx
          exact ⟨_, q, List.replicate q 0, by rw [List.length_replicate]; rfl, (by show _ ≤ _; rw [List.length_replicate]; omega), own_made w4 q G4.out.size (by simp only [maxLen]; omega), G5.cur, G5.grown⟩
      · go_wp2_with fail
        refine (lit_pick g [1099511627777, -1099511627777, 9223372036854775807, -9223372036854775808] _ C2 (by simp) (by simp)).mono ?_; rintro e w3 ⟨v, rfl, v1, C3, T3⟩
        have O3 := own_turn O2 T3 hgl
        have G3 := G2.turn C3 T3
        clear T3 O2 G2 C2 C3 v1
        go_wp2_with (at_builtin; refine app_new rfl (.tmp 23) (.tmp 27) rfl w.heap.size Aq cq xs.length xs _ rfl rfl O3 rfl (by omega) G3.size ?_)
        intro A4 c4 w4 O4 hw4 mv4
        have G4 := Lib.hid (G3.wrote hw4 (own_lo O3))
        have OO4 := Lib.hid O4
        have hl4 : Hid ((xs ++ [v]).length = xs.length + 1) := by simp [Hid]
        have C4 := G4.out.cur
        clear O4 hw4 mv4 O3 G3
        go_wp2_with fail
        refine (l01Once_any g 80 _ C4 (by omega) (by omega)).mono ?_; rintro e w5 ⟨b, rfl, C5, T5⟩
        have O5 := Lib.hid (own_turn OO4.out T5 hgl)
        have G5 := Lib.hid (G4.out.turn C5 T5)
        clear T5 OO4 G4 C4
        cases b
        · go_wp2_with fail
          go_ret
          exact ⟨A4, c4, xs ++ [v], by rw [hl4.out]; rfl, (by show _ ≤ _; rw [hl4.out]; omega), O5.out, G5.out.cur, G5.out.grown⟩
        · go_wp2_with fail
          refine (l01Below_any g 2 _ C5 (by omega) (by omega)).mono ?_; rintro e w6 ⟨u, rfl, v1, v2, C6, T6⟩
          obtain ⟨q, hq⟩ : ∃ q : Nat, 1000 + u = q := ⟨(1000 + u).toNat, by omega⟩
          have hq2 : q ≤ 1001 := by omega
          have hmk := HM.out q (by omega)
          have G6 := Lib.hid (G5.out.turn C6 T6)
          clear T6 C6 C5 v1 v2
          go_wp2_with fail
          go_ret
          have bx : Below w6.heap.size w6 (w6.alloc (.cells (madeCells #[.int .i64 0] q) 3)) := (Below.refl _ _).alloc (Nat.le_refl _) _
          have G7 := G6.out.past bx
          exact ⟨_, q, List.replicate q 0, by rw [List.length_replicate]; rfl, (by show _ ≤ _; rw [List.length_replicate]; omega), own_made w6 q G6.out.size (by simp only [maxLen]; omega), G7.cur, G7.grown⟩
end Go.Proofs.YtgkijkenbjjnmaaGreatDoor
