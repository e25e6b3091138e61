/- Contract of MakeModulator. -/
import Derived.Test.YtgkijkenbjjnmaaGreatDoorMkMod
import Derived.Test.YtgkijkenbjjnmaaGreatDoorArgB
import Derived.Deep.CutRange
namespace Go.Proofs.YtgkijkenbjjnmaaGreatDoor
open Go.RowKit
set_option linter.unusedVariables false
set_option linter.unusedSimpArgs false
def RetMM (w : World) (e : Ending) (w' : World) : Prop := ∃ (l s : Nat) (cs : List Int) (A : Option Addr) (c : Nat), e = .returned (.agg #[.int .i64 l, .int .i64 s, .slice A cs.length c]) ∧ 2 ≤ l ∧ l ≤ 6 ∧ 1 ≤ s ∧ s ≤ 64 ∧ 1 ≤ cs.length ∧ cs.length ≤ 4 ∧ (∀ v ∈ cs, -64 ≤ v ∧ v ≤ 64) ∧ Own w' w.heap.size A c cs ∧ Below w.heap.size w w'
theorem MakeModulator_res {tmps : Array Value} {g : Nat} {w : World} {v0 v1 v2 : Value} (hp : tmps.getD 2 undef = .pointer (some ⟨g, 0, none⟩)) (c0 : w.cell? ⟨g, 0, none⟩ = some v0) (c1 : w.cell? ⟨g, 1, none⟩ = some v1) (c2 : w.cell? ⟨g, 2, none⟩ = some v2) :
    (results Tryz.f7 tmps).run Tryz.prog w = .ok (.agg #[v0, v1, v2]) w := by
  have hp' := hp
  simp at hp'
  simp only [results, Tryz.results7]
  simp [go_sem, hp', c0, c1, c2]
theorem specOrder_n (l s : Nat) (l1 : 2 ≤ l) (l2 : l ≤ 6) (s1 : 1 ≤ s) (s2 : s ≤ 64) (j : Nat) (hj : j ≤ 3) (W : World) :
    Calls Tryz.prog 39 #[.agg #[.int .i64 l, .int .i64 s], .int .i64 (1 + (j : Int))] W (fun e w' => ∃ A c X, e = .returned (.tuple #[.agg #[.int .i64 l, .int .i64 s, .slice A (X : List Int).length c], .bool true]) ∧ 1 ≤ X.length ∧ X.length ≤ 4 ∧ (∀ v ∈ X, -64 ≤ v ∧ v ≤ 64) ∧ Own w' W.heap.size A c X ∧ Below W.heap.size W w') := by
  have h := specOrder_yes l s (j + 1) W (quantOk_of (by omega) (by omega) (by omega) (by omega)) (by omega) (by omega)
  rw [show ((j + 1 : Nat) : Int) = 1 + (j : Int) by omega] at h
  have hl : ((coefs (j + 1)).drop 1).length = j + 1 := by rw [List.length_drop, coefs_length]; rfl
  refine h.mono ?_
  rintro e w' ⟨A, c, rfl, O, hb⟩
  exact ⟨A, c, (coefs (j + 1)).drop 1, by rw [hl], by omega, by omega, fun v hv => coefs_small (j + 1) (by omega) v (List.mem_of_mem_drop hv), O, hb⟩
theorem cur_turn {w w' : World} {g b : Nat} (h : Cur w g) (hw : w.grownBy w' (some b)) (hg : g < b) : Cur w' g := by
  have hlt := h.lt
  obtain ⟨D, m, c, i, q, h1, h2, h3, h4⟩ := h
  exact ⟨D, m, c, i, q, blk_turn h1 hw (by omega), h2, h3, h4.keep fun p hp => World.cell?_of_block (hw.block _ (by omega) (fun e => by have := Option.some.inj e; omega))⟩
set_option maxRecDepth 100000 in
set_option maxHeartbeats 1000000 in
theorem MakeModulator_any (A : Option Addr) (c n : Nat) (w : World) (hr : RdB w w.heap.size A n) (hn : n ≤ 4294967296) : Calls Tryz.prog 7 #[.slice A n c] w (RetMM w) := by
  have hb0 : Below w.heap.size w (w.alloc (.cells #[.int .i64 0, .int .i64 0, .slice none 0 0] 27)) := (Below.refl _ _).alloc (Nat.le_refl _) _
  have B2 := Blk.new w 27 #[.int .i64 0, .int .i64 0, .slice none 0 0]
  have R := hr.past hb0
  have Hb := Lib.hid hb0
  clear hb0 hr
  go_enter Tryz.func7, Tryz.ntmps7
  go_wp2_with fail
  refine (l01New_any _ _ _ _ R hn).mono ?_; rintro e w1 ⟨g, rfl, hg, C, h1⟩
  replace B2 := B2.past h1
  replace Hb := Lib.hid (thenB Hb.out h1)
  replace R := R.past h1
  have hg0 : w.heap.size < g := by simp at hg; omega
  have z1 : w.heap.size + 1 ≤ w1.heap.size := B2.lt
  clear h1 hg
  go_wp2_with fail
  refine (MakeQuantiser_any _ _ _ _ R hn).mono ?_; rintro e w2 ⟨l, s, rfl, l1, l2, s1, s2, h2⟩
  replace B2 := B2.past h2
  replace C := C.past h2
  replace Hb := Lib.hid (thenB Hb.out h2)
  have z2 : w1.heap.size ≤ w2.heap.size := h2.size
  have gl2 : g < w2.heap.size := C.lt
  clear h2 R
  have bx : Below w2.heap.size w2 (w2.alloc (.cells #[.int .i64 l, .int .i64 s] 24)) := (Below.refl _ _).alloc (Nat.le_refl _) _
  have BQ := Blk.new w2 24 #[.int .i64 l, .int .i64 s]
  replace B2 := B2.past bx
  replace C := C.past bx
  replace Hb := Lib.hid (thenB Hb.out bx)
  have z3 : w2.heap.size < (w2.alloc (.cells #[.int .i64 l, .int .i64 s] 24)).heap.size := by simp
  go_wp2_with fail
  obtain ⟨w3, hw3⟩ : ∃ W, W = w2.alloc (.cells #[.int .i64 l, .int .i64 s] 24) := ⟨_, rfl⟩
  rw [← hw3] at B2 C Hb z3 BQ ⊢
  clear hw3 bx
  refine (l01Once_any g 3 w3 C (by omega) (by omega)).mono ?_; rintro e w4 ⟨b, rfl, C4, T4⟩
  replace B2 := blk_turn B2 T4 (by omega)
  replace BQ := blk_turn BQ T4 (by omega)
  replace Hb := Lib.hid (turn_past Hb.out T4 (by omega) (by omega))
  have z4 : w3.heap.size ≤ w4.heap.size := T4.size
  clear T4 C
  have HO := Lib.hid (specOrder_n l s l1 l2 s1 s2)
  have HB4 : Hid (∀ W, Cur W g → Calls Tryz.prog 40 #[.pointer (some ⟨g, 0, none⟩), .int .i64 4] W (RetN 0 (4 - 1) g W)) := fun W h => l01Below_any g 4 W h (by omega) (by omega)
  cases b
  case false =>
    have bx : Below w4.heap.size w4 (w4.alloc (.cells #[.int .i64 l, .int .i64 s, .slice none 0 0] 27)) := (Below.refl _ _).alloc (Nat.le_refl _) _
    have BM := Blk.new w4 27 #[.int .i64 l, .int .i64 s, .slice none 0 0]
    have q0 := BQ.cell 0
    have q1 := BQ.cell 1
    simp at q0 q1
    replace B2 := B2.past bx
    have C := C4.past bx
    replace Hb := Lib.hid (thenB Hb.out bx)
    have z5 : w4.heap.size < (w4.alloc (.cells #[.int .i64 l, .int .i64 s, .slice none 0 0] 27)).heap.size := by simp
    go_wp2_with fail
    obtain ⟨w5, hw5⟩ : ∃ W, W = w4.alloc (.cells #[.int .i64 l, .int .i64 s, .slice none 0 0] 27) := ⟨_, rfl⟩
    rw [← hw5] at B2 C Hb z5 BM ⊢
    clear hw5 bx q0 q1 BQ HO
    refine (HB4.out w5 C).mono ?_; rintro e w6 ⟨v, rfl, v1, v2, C6, T6⟩
    obtain ⟨j0, rfl⟩ : ∃ j : Nat, v = j := ⟨v.toNat, by omega⟩
    have HB2 := Lib.hid (blk_turn B2 T6 (by omega))
    have HBM := Lib.hid (blk_turn BM T6 (by omega))
    replace Hb := Lib.hid (turn_past Hb.out T6 (by omega) (by omega))
    have HC := Lib.hid C6
    have z6 : w5.heap.size ≤ w6.heap.size := T6.size
    clear T6 C C4 B2 BM HB4
    go_wp2_with fail
    go_loopw [8] (fun i wr => ∃ (j : Nat) (cs : List Int) (A5 : Option Addr) (c5 : Nat), i = .int .i64 j ∧ j + cs.length = j0 + 1 ∧ Hid (∀ v ∈ cs, -64 ≤ v ∧ v ≤ 64) ∧ Hid (Own wr w6.heap.size A5 c5 cs) ∧ Hid (Cur wr g) ∧ Hid (Blk wr w.heap.size 27 #[.int .i64 0, .int .i64 0, .slice none 0 0]) ∧ Hid (Blk wr w4.heap.size 27 #[.int .i64 l, .int .i64 s, .slice A5 cs.length c5]) ∧ Hid (Below w.heap.size w wr) ∧ w6.heap.size ≤ wr.heap.size) (fun i _ => (intOf i).toNat)
    case atStart => exact ⟨j0 + 1, [], none, 0, congrArg (Value.int .i64) (by omega), by simp, fun v hv => by simp at hv, own_nil _ _, HC.out, HB2.out, HBM.out, Hb.out, Nat.le_refl _⟩
    case round =>
      clear HB2 HBM Hb HC
      obtain ⟨j, cs, A5, c5, rfl, hj, HX, HOw, HC, HB2, HBM, Hb, zr⟩ := hrel
      by_cases hlt : 0 < j
      · have bx := (Below.refl wr.heap.size wr).drew
        have C := HC.out.past bx
        have BM := HBM.out.past bx
        have O := own_past HOw.out bx
        have B2 := HB2.out.past bx
        have Hb1 := Lib.hid (thenB Hb.out bx)
        have e2 := BM.cell 2
        simp at e2
        have hcl : cs.length ≤ 4 := by omega
        clear bx HC HBM HOw HB2 Hb
        go_wp2_with fail
        go_region_law
          (first
            | (refine step_app (by rfl) (.tmp 34) (.tmp 38) (by rfl) w6.heap.size A5 c5 cs.length cs rfl (by rfl) OA w7.heap.size (v - 2) (by rfl) (by simp) (by omega) (by simp; omega) ?_; intro A8 c8 w8 O8 hw8 mv8; have LA := own_lo OA; have BM8 := Lib.hid (blk_wrote BMA hw8 LA (by omega)); have B28 := Lib.hid (blk_wrote B2A hw8 LA (by omega)); have C8 := Lib.hid (CA.wrote hw8 LA (by omega)); have Hb8 := Lib.hid (HbA.out.trans (below_wrote hw8 (by simp; omega) (lo_le LA (by omega)))); have z8 : (w7.alloc (.cells #[.int .i64 (v - 2)] 3)).heap.size ≤ w8.heap.size := hw8.size; have i2 := BM8.out.cell 2; have if2 := BM8.out.frozen 2; simp at i2 z8)
            | (go_simp; go_at_call 40; refine (l01Below_any g _ _ C (by omega) (by omega)).mono ?_; rintro e w7 ⟨v, rfl, v1', v2', C7, T7⟩; have z7 : wr.heap.size ≤ w7.heap.size := T7.size; have BM7 := blk_turn BM T7 (by omega); have B27 := blk_turn B2 T7 (by omega); have O7 := own_turn O T7 (by omega); have Hb7 := Lib.hid (turn_past Hb1.out T7 (by simp; omega) (by omega)); have by_ : Below w7.heap.size w7 (w7.alloc (.cells #[.int .i64 (v - 2)] 3)) := (Below.refl _ _).alloc (Nat.le_refl _) _; have OA := own_past O7 by_; have BMA := BM7.past by_; have B2A := B27.past by_; have CA := C7.past by_; have HbA := Lib.hid (thenB Hb7.out by_); have sv : IntKind.i64.wrap (v - 2) = v - 2 := Go.IntWalk.i64_in _ (by omega); have j2 := BM7.cell 2; simp at j2; have k2 : (w7.alloc (.cells #[.int .i64 (v - 2)] 3)).cell? ⟨w4.heap.size, 2, none⟩ = some (.slice A5 cs.length c5) := BMA.cell 2))
        all_goals
          have BM9 := BM8.out.set_ 2 (.slice A8 (cs.length + 1) c8)
          have B29 := Lib.hid (B28.out.far (p := ⟨w4.heap.size, 2, none⟩) (show w.heap.size ≠ w4.heap.size by omega) (.slice A8 (cs.length + 1) c8))
          have T9 := turn_set (turn_refl w8 w4.heap.size) (p := ⟨w4.heap.size, 2, none⟩) rfl (.slice A8 (cs.length + 1) c8)
          have C9 : Hid (Cur (w8.setCell ⟨w4.heap.size, 2, none⟩ (.slice A8 (cs.length + 1) c8)) g) := cur_turn C8.out T9 (show g < w4.heap.size by omega)
          have O9 := Lib.hid (own_turn O8 T9 (show w4.heap.size < w6.heap.size by omega))
          have Hb9 := Lib.hid (turn_past Hb8.out T9 Hb8.out.size (show w.heap.size ≤ w4.heap.size by omega))
          have hl : (cs ++ [v - 2]).length = cs.length + 1 := by simp
          have HX9 : Hid (∀ u ∈ cs ++ [v - 2], -64 ≤ u ∧ u ≤ 64) := fun u hu => by
            rw [List.mem_append] at hu
            rcases hu with hu | hu
            · exact HX.out u hu
            · simp at hu; omega
          have HBM9 : Hid (Blk (w8.setCell ⟨w4.heap.size, 2, none⟩ (.slice A8 (cs.length + 1) c8)) w4.heap.size 27 #[.int .i64 l, .int .i64 s, .slice A8 (cs ++ [v - 2]).length c8]) := by rw [hl]; exact BM9
          have z9 : Hid (w6.heap.size ≤ (w8.setCell ⟨w4.heap.size, 2, none⟩ (.slice A8 (cs.length + 1) c8)).heap.size) := by have := T9.size; show _ ≤ _; omega
          clear BM9 T9 BM8 B28 C8 Hb8 O8 hw8 mv8 i2 if2 e2 j2 k2 LA OA BMA B2A CA HbA O7 BM7 B27 C7 T7 Hb7 Hb1 B2 BM C O by_
          go_wp2
          go_roundw
          case rel => exact ⟨j - 1, cs ++ [v - 2], A8, c8, by go_num, by rw [hl]; omega, HX9.out, O9.out, C9.out, B29.out, HBM9.out, Hb9.out, z9.out⟩
          case measure => simp [intOf]; omega
      · obtain rfl : j = 0 := by omega
        have BM := HBM.out
        have e0 := BM.cell 0
        have e1 := BM.cell 1
        have e2 := BM.cell 2
        have p0 := HB2.out.cell 0
        have p1 := HB2.out.cell 1
        have p2 := HB2.out.cell 2
        have f0 := HB2.out.frozen 0
        have f1 := HB2.out.frozen 1
        have f2 := HB2.out.frozen 2
        simp at e0 e1 e2 p0 p1 p2
        have D0 := ((HB2.out.set_ 0 (.int .i64 l)).set_ 1 (.int .i64 s)).set_ 2 (.slice A5 cs.length c5)
        have d0 := D0.cell 0
        have d1 := D0.cell 1
        have d2 := D0.cell 2
        simp at d0 d1 d2
        clear BM D0
        go_wp2
        refine bodyPost_ret (MakeModulator_res rfl d0 d1 d2) rfl ?_
        have T1 := turn_set (turn_refl wr w.heap.size) (p := ⟨w.heap.size, 0, none⟩) rfl (.int .i64 l)
        have T2 := turn_set T1 (p := ⟨w.heap.size, 1, none⟩) rfl (.int .i64 s)
        have T3 := turn_set T2 (p := ⟨w.heap.size, 2, none⟩) rfl (.slice A5 cs.length c5)
        exact ⟨l, s, cs, A5, c5, rfl, l1, l2, s1, s2, by omega, by omega, HX.out, own_grown (own_mono HOw.out (show w.heap.size ≤ w6.heap.size by omega)) T3 (fun a e e' => by have h1 := own_lo HOw.out a e; have h2 := Option.some.inj e'; omega), ((Hb.out.setCell (Nat.le_refl _) _).setCell (Nat.le_refl _) _).setCell (Nat.le_refl _) _⟩
  case true =>
    have bx := (Below.refl w4.heap.size w4).drew
    replace B2 := B2.past bx
    replace BQ := BQ.past bx
    replace Hb := Lib.hid (thenB Hb.out bx)
    have C := C4.past bx
    have q0 := BQ.cell 0
    have q1 := BQ.cell 1
    simp at q0 q1
    clear bx
    go_upto_region 4 with fail
    go_cut [5, 6] from 15 to 22 (fun u5 u6 wx => ∃ gx A c X, u5 = .pointer (some ⟨gx, 0, none⟩) ∧ u6 = .bool true ∧ 1 ≤ X.length ∧ X.length ≤ 4 ∧ gx ≠ w.heap.size ∧ Hid (NotB A w.heap.size) ∧ Hid (∀ v ∈ X, -64 ≤ v ∧ v ≤ 64) ∧ Hid (Blk wx w.heap.size 27 #[.int .i64 0, .int .i64 0, .slice none 0 0]) ∧ Hid (MetMo w gx l s X A c wx))
    case first =>
      go_region_held3 (fun w' => w'.cell? ⟨w2.heap.size, 0, none⟩ = some (.int .i64 l) ∧ w'.cell? ⟨w2.heap.size, 1, none⟩ = some (.int .i64 s)) (first | go_keep)
        (first
          | (go_at_call 40; first
            | ((with_reducible refine (HB4.out _ C).mono ?_); rintro e w6 ⟨v, rfl, v1, v2, C6, T6⟩; obtain ⟨j, rfl⟩ : ∃ j : Nat, v = j := ⟨v.toNat, by omega⟩; have hj : j ≤ 3 := (by omega); have hw1 : IntKind.i64.wrap (1 + (j : Int)) = 1 + (j : Int) := Go.IntWalk.i64_in _ (by omega); replace BQ := blk_turn BQ T6 (by omega); replace B2 := blk_turn B2 T6 (by omega); replace Hb := Lib.hid (turn_past Hb.out T6 (by simp; omega) (by omega)); have z6 : w4.heap.size ≤ w6.heap.size := T6.size; clear q0 q1; have q0 := BQ.cell 0; have q1 := BQ.cell 1; simp at q0 q1; clear T6)
            | (have by_ : Below w4.drew.heap.size w4.drew (w4.alloc (.cells #[.int .i64 0, .int .i64 0, .slice none 0 0] 27)).drew := (Below.refl _ _).alloc (Nat.le_refl _) _; have SX : Blk (w4.alloc (.cells #[.int .i64 0, .int .i64 0, .slice none 0 0] 27)).drew w4.heap.size 27 #[.int .i64 0, .int .i64 0, .slice none 0 0] := Blk.new w4 27 #[.int .i64 0, .int .i64 0, .slice none 0 0]; have hX : w4.heap.size ≠ w.heap.size := (by omega); have hX2 : w.heap.size ≤ w4.heap.size := (by omega); have nzx : ¬ (w2.heap.size = w4.heap.size) := (by omega); have nzy : ¬ (w4.heap.size = w2.heap.size) := (by omega); have XL : w4.heap.size < (w4.alloc (.cells #[.int .i64 0, .int .i64 0, .slice none 0 0] 27)).drew.heap.size := (by simp); replace C := C.past by_; replace BQ := BQ.past by_; replace B2 := B2.past by_; replace Hb := Lib.hid (thenB Hb.out by_); (with_reducible refine (HB4.out _ C).mono ?_); rintro e w6 ⟨v, rfl, v1, v2, C6, T6⟩; obtain ⟨j, rfl⟩ : ∃ j : Nat, v = j := ⟨v.toNat, by omega⟩; have hj : j ≤ 3 := (by omega); have hw1 : IntKind.i64.wrap (1 + (j : Int)) = 1 + (j : Int) := Go.IntWalk.i64_in _ (by omega); replace BQ := blk_turn BQ T6 (by omega); replace B2 := blk_turn B2 T6 (by omega); replace SX := blk_turn SX T6 (by omega); replace Hb := Lib.hid (turn_past Hb.out T6 (by omega) (by omega)); have z6 : w4.heap.size < w6.heap.size := (Nat.lt_of_lt_of_le XL T6.size); clear q0 q1; have q0 := BQ.cell 0; have q1 := BQ.cell 1; have x0 := SX.cell 0; have x1 := SX.cell 1; have x2 := SX.cell 2; simp at q0 q1 x0 x1 x2; clear T6 XL))
          | (go_at_call 39; first
            | (have XL := SX.lt; (with_reducible refine (HO.out j hj w6).mono ?_); rintro e w7 ⟨A5, c5, X, rfl, x1', x2', hX5, O5, h7⟩; replace BQ := BQ.past h7; replace B2 := B2.past h7; replace SX := SX.past h7; replace Hb := Lib.hid (thenB Hb.out h7); clear q0 q1 x0 x1 x2; have q0 := BQ.cell 0; have q1 := BQ.cell 1; have x0 := SX.cell 0; have x1 := SX.cell 1; have x2 := SX.cell 2; have y0 := SX.frozen 0; have y1 := SX.frozen 1; have y2 := SX.frozen 2; simp at q0 q1 x0 x1 x2; have HX5 := Lib.hid hX5; have NB : Hid (NotB A5 w.heap.size) := (fun a e => by have := own_lo O5 a e; omega); have M2 := Lib.hid (((B2.far (p := ⟨_, 0, none⟩) hX.symm (.int .i64 l)).far (p := ⟨_, 1, none⟩) hX.symm (.int .i64 s)).far (p := ⟨_, 2, none⟩) hX.symm (.slice A5 X.length c5)); have M := Lib.hid (metMo_before (l := l) (s := s) Hb.out hX2 XL (by rfl) SX O5); have hXX := hX; clear h7 hX5)
            | ((with_reducible refine (HO.out j hj w6).mono ?_); rintro e w7 ⟨A5, c5, X, rfl, x1', x2', hX5, O5, h7⟩; replace BQ := BQ.past h7; replace B2 := B2.past h7; replace Hb := Lib.hid (thenB Hb.out h7); have z7 : w6.heap.size ≤ w7.heap.size := h7.size; clear q0 q1; have q0 := BQ.cell 0; have q1 := BQ.cell 1; simp at q0 q1; have HX5 := Lib.hid hX5; have NB : Hid (NotB A5 w.heap.size) := (fun a e => by have := own_lo O5 a e; omega); have M2 := Lib.hid (B2.alloc (.cells #[.int .i64 l, .int .i64 s, .slice A5 X.length c5] 27)); have M := Lib.hid (metMo_after (l := l) (s := s) (x := X) Hb.out (by omega) O5); have hXX : w7.heap.size ≠ w.heap.size := (by omega); clear h7 hX5)
            | (have by_ : Below w6.heap.size w6 (w6.alloc (.cells #[.int .i64 0, .int .i64 0, .slice none 0 0] 27)) := (Below.refl _ _).alloc (Nat.le_refl _) _; have SX := Blk.new w6 27 #[.int .i64 0, .int .i64 0, .slice none 0 0]; have hX : w6.heap.size ≠ w.heap.size := (by omega); have hX2 : w.heap.size ≤ w6.heap.size := (by omega); have nzx : ¬ (w2.heap.size = w6.heap.size) := (by omega); have nzy : ¬ (w6.heap.size = w2.heap.size) := (by omega); have XL : w6.heap.size < (w6.alloc (.cells #[.int .i64 0, .int .i64 0, .slice none 0 0] 27)).heap.size := (by simp); replace BQ := BQ.past by_; replace B2 := B2.past by_; replace Hb := Lib.hid (thenB Hb.out by_); (with_reducible refine (HO.out j hj (w6.alloc (.cells #[.int .i64 0, .int .i64 0, .slice none 0 0] 27))).mono ?_); rintro e w7 ⟨A5, c5, X, rfl, x1', x2', hX5, O5, h7⟩; replace BQ := BQ.past h7; replace B2 := B2.past h7; replace SX := SX.past h7; replace Hb := Lib.hid (thenB Hb.out h7); clear q0 q1; have q0 := BQ.cell 0; have q1 := BQ.cell 1; have x0 := SX.cell 0; have x1 := SX.cell 1; have x2 := SX.cell 2; have y0 := SX.frozen 0; have y1 := SX.frozen 1; have y2 := SX.frozen 2; simp at q0 q1 x0 x1 x2; have HX5 := Lib.hid hX5; have NB : Hid (NotB A5 w.heap.size) := (fun a e => by have := own_lo O5 a e; omega); have M2 := Lib.hid (((B2.far (p := ⟨_, 0, none⟩) hX.symm (.int .i64 l)).far (p := ⟨_, 1, none⟩) hX.symm (.int .i64 s)).far (p := ⟨_, 2, none⟩) hX.symm (.slice A5 X.length c5)); have M := Lib.hid (metMo_before (l := l) (s := s) Hb.out hX2 XL (by rfl) SX O5); have hXX := hX; clear h7 hX5)))
      all_goals (go_wp2_with fail; go_meet; exact ⟨_, _, _, _, rfl, rfl, x1', x2', hXX, NB, HX5, M2, M⟩)
    case rest =>
      clear B2 BQ Hb C q0 q1
      obtain ⟨gx, A5, c5, X, rfl, rfl, x1, x2, hXX, NB, HX5, M2, M⟩ := hcut
      obtain ⟨m1, m2, m3, m4, m5⟩ := M.out
      have e0 := m2.cell 0
      have e1 := m2.cell 1
      have e2 := m2.cell 2
      have p0 := M2.out.cell 0
      have p1 := M2.out.cell 1
      have p2 := M2.out.cell 2
      have f0 := M2.out.frozen 0
      have f1 := M2.out.frozen 1
      have f2 := M2.out.frozen 2
      simp at e0 e1 e2 p0 p1 p2
      have D0 := ((M2.out.set_ 0 (.int .i64 l)).set_ 1 (.int .i64 s)).set_ 2 (.slice A5 X.length c5)
      have d0 := D0.cell 0
      have d1 := D0.cell 1
      have d2 := D0.cell 2
      simp at d0 d1 d2
      have OM := Lib.hid m3
      have HB5 := Lib.hid m5
      clear m1 m2 m3 m4 m5 M M2 D0
      go_wp2
      refine bodyPost_ret (MakeModulator_res rfl d0 d1 d2) rfl ?_
      have T1 := turn_set (turn_refl wc w.heap.size) (p := ⟨w.heap.size, 0, none⟩) rfl (.int .i64 l)
      have T2 := turn_set T1 (p := ⟨w.heap.size, 1, none⟩) rfl (.int .i64 s)
      have T3 := turn_set T2 (p := ⟨w.heap.size, 2, none⟩) rfl (.slice A5 X.length c5)
      exact ⟨l, s, X, A5, c5, rfl, l1, l2, s1, s2, x1, x2, HX5.out, own_grown OM.out T3 (fun a e e' => NB.out a e (Option.some.inj e')), ((HB5.out.setCell (Nat.le_refl _) _).setCell (Nat.le_refl _) _).setCell (Nat.le_refl _) _⟩
end Go.Proofs.YtgkijkenbjjnmaaGreatDoor
