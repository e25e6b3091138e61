/- Generators under the cursor: any modulator. (Printed by mkgenb4.py.) -/
import Derived.Test.YtgkijkenbjjnmaaGreatDoorGenB3
import Derived.Deep.CutRange
namespace Go.Proofs.YtgkijkenbjjnmaaGreatDoor
open Go.RowKit
set_option linter.unusedVariables false
set_option linter.unusedSimpArgs false
/-- The result's block and the local's under way. -/
structure M3 (w : World) (g b : Nat) (wr : World) (l s : Int) (v : Value) : Prop where
  g : Gs w g wr
  r : Blk wr w.heap.size 27 #[.int .i64 0, .int .i64 0, .slice none 0 0]
  m : Blk wr b 27 #[.int .i64 l, .int .i64 s, v]
  hb : w.heap.size < b
theorem M3.turn {w wr w' : World} {g b : Nat} {l s : Int} {v : Value} (h : M3 w g b wr l s v) (C : Cur w' g) (T : wr.grownBy w' (some g)) : M3 w g b w' l s v :=
  ⟨h.g.turn C T, blk_turn h.r T (by have := h.g.lt; omega), blk_turn h.m T (by have := h.g.lt; have := h.hb; omega), h.hb⟩
theorem M3.past {w wr w' : World} {g b : Nat} {l s : Int} {v : Value} (h : M3 w g b wr l s v) (bx : Below wr.heap.size wr w') : M3 w g b w' l s v :=
  ⟨h.g.past bx, h.r.past bx, h.m.past bx, h.hb⟩
theorem M3.wrote {w wr w' : World} {g b : Nat} {l s : Int} {v : Value} {A : Option Addr} (h : M3 w g b wr l s v) (hw : Wrote wr w' A) (nb : ∀ a, A = some a → a.block ≠ b) (lo : Lo A (w.heap.size + 1)) : M3 w g b w' l s v :=
  ⟨h.g.wrote hw (lo_le lo (by omega)), blk_wrote h.r hw lo (by omega), h.m.grown hw (by
    cases A with
    | none => simp [row]
    | some a => simp [row]; exact fun e => nb a rfl e.symm), h.hb⟩
theorem M3.set1 {w wr : World} {g b : Nat} {l s : Int} {v : Value} (h : M3 w g b wr l s v) (u : Value) : M3 w g b (wr.setCell ⟨b, 2, none⟩ u) l s u := by
  refine ⟨h.g.set (Nat.le_of_lt h.hb) u, h.r.far (p := ⟨b, 2, none⟩) (by have := h.hb; show w.heap.size ≠ b; omega) u, ?_, h.hb⟩
  have := h.m.set_ 2 u
  simpa using this
theorem M3.set3 {w wr : World} {g b : Nat} {l s : Int} {v : Value} (h : M3 w g b wr l s v) (l' s' : Int) (u : Value) : M3 w g b (((wr.setCell ⟨b, 0, none⟩ (.int .i64 l')).setCell ⟨b, 1, none⟩ (.int .i64 s')).setCell ⟨b, 2, none⟩ u) l' s' u := by
  have hn : w.heap.size ≠ b := by have := h.hb; omega
  refine ⟨((h.g.set (Nat.le_of_lt h.hb) _).set (Nat.le_of_lt h.hb) _).set (Nat.le_of_lt h.hb) u, ((h.r.far (p := ⟨b, 0, none⟩) hn _).far (p := ⟨b, 1, none⟩) hn _).far (p := ⟨b, 2, none⟩) hn u, ?_, h.hb⟩
  have := ((h.m.set_ 0 (.int .i64 l')).set_ 1 (.int .i64 s')).set_ 2 u
  simpa using this
theorem own_at {w : World} {B b c : Nat} {A : Option Addr} {X : List Int} (O : Own w B A c X) (j : Nat) (u : Value) (nb : ∀ a, A = some a → a.block ≠ b) : Own (w.setCell ⟨b, j, none⟩ u) B A c X :=
  own_grown O (turn_set (turn_refl w b) (p := ⟨b, j, none⟩) rfl u) (fun a e e' => nb a e (Option.some.inj e'))
theorem moved_nb {A A' : Option Addr} {n b : Nat} (h : Moved A A' n) (nb : ∀ a, A = some a → a.block ≠ b) (hb : b < n) : ∀ a, A' = some a → a.block ≠ b := fun a e => by
  rcases h with h | h
  · subst e
    cases A with
    | none => simp [row] at h
    | some a0 => simp [row] at h; have := nb a0 rfl; omega
  · have := h a e; omega
def RetMo3 (g : Nat) (w : World) (e : Ending) (w' : World) : Prop := ∃ (l s : Int) (X : List Int) (A : Option Addr) (c : Nat), e = .returned (.agg #[.int .i64 l, .int .i64 s, .slice A X.length c]) ∧ X.length ≤ 100 ∧ Own w' w.heap.size A c X ∧ Cur w' g ∧ w.grownBy w' (some g)
theorem l3Any_res {tmps : Array Value} {g : Nat} {w : World} {v0 v1 v2 : Value} (hp : tmps.getD 2 undef = .pointer (some ⟨g, 0, none⟩)) (c0 : w.cell? ⟨g, 0, none⟩ = some v0) (c1 : w.cell? ⟨g, 1, none⟩ = some v1) (c2 : w.cell? ⟨g, 2, none⟩ = some v2) :
    (results Tryz.f110 tmps).run Tryz.prog w = .ok (.agg #[v0, v1, v2]) w := by
  have hp' := hp
  simp at hp'
  simp only [results, Tryz.results110]
  simp [go_sem, hp', c0, c1, c2]
set_option maxRecDepth 100000 in
set_option maxHeartbeats 3000000 in
theorem l3Any_any (g : Nat) (w : World) (hc : Cur w g) : Calls Tryz.prog 110 #[.pointer (some ⟨g, 0, none⟩)] w (RetMo3 g w) := by
  have hgl := hc.lt
  have B0 := Blk.new w 27 #[.int .i64 0, .int .i64 0, .slice none 0 0]
  have G := (Gs.start hc).past ((Below.refl _ _).alloc (Nat.le_refl _) (.cells #[.int .i64 0, .int .i64 0, .slice none 0 0] 27))
  clear hc
  go_enter Tryz.func110, Tryz.ntmps110
  go_wp2_with fail
  refine (l2Any_any g _ G.cur).mono ?_; rintro e w1 ⟨l0, s0, rfl, C1, T1⟩
  replace B0 := blk_turn B0 T1 (by omega)
  replace G := G.turn C1 T1
  clear T1
  go_wp2_with fail
  refine (l01Below_any g 3 _ C1 (by omega) (by omega)).mono ?_; rintro e w2 ⟨v, rfl, v1, v2, C2, T2⟩
  replace B0 := blk_turn B0 T2 (by omega)
  replace G := G.turn C2 T2
  obtain ⟨k, hk⟩ : ∃ k : Nat, 1 + v = k := ⟨(1 + v).toNat, by omega⟩
  have hk1 : 1 ≤ k ∧ k ≤ 3 := by omega
  have z2 : w.heap.size < w2.heap.size := B0.lt
  clear T2 C1 C2
  go_wp2_with fail
  refine (specOrder_any l0 s0 k _ (by omega) (by omega)).mono ?_; rintro e w3 ⟨l, s, X, A, c, ok, rfl, hX, O, h3⟩
  replace B0 := B0.past h3
  replace G := G.past h3
  have z3 : w2.heap.size ≤ w3.heap.size := h3.size
  have NB : Hid (∀ a, A = some a → a.block ≠ w3.heap.size) := fun a e => Nat.ne_of_lt (own_lt O a e).2
  clear h3 hk hk1 v1 v2
  have bx : Below w3.heap.size w3 (w3.alloc (.cells #[.int .i64 l, .int .i64 s, .slice A X.length c] 27)) := (Below.refl _ _).alloc (Nat.le_refl _) _
  have BM := Blk.new w3 27 #[.int .i64 l, .int .i64 s, .slice A X.length c]
  have O4 := Lib.hid (own_mono (own_past O bx) (show w.heap.size + 1 ≤ w2.heap.size by omega))
  have M := Lib.hid (M3.mk (G.past bx) (B0.past bx) BM (show w.heap.size < w3.heap.size by omega))
  clear O bx BM B0 G
  obtain ⟨b, hb⟩ : ∃ b, b = w3.heap.size := ⟨_, rfl⟩
  obtain ⟨w4, hw4⟩ : ∃ W, W = w3.alloc (.cells #[.int .i64 l, .int .i64 s, .slice A X.length c] 27) := ⟨_, rfl⟩
  rw [← hb] at M NB
  rw [← hw4] at M O4
  have HW := Lib.hid hw4
  have HBB := Lib.hid hb
  have hX2 : X.length ≤ 20 := by omega
  have hbl : w.heap.size < b := M.out.hb
  clear hw4 hb z3 hX
  cases ok
  · skip
    go_upto_region 3 with fail
    rw [← HBB.out, ← HW.out]
    have CC := M.out.g.cur
    go_wp2_with fail
    refine (l2Any_any g _ CC).mono ?_; rintro e y1 ⟨l', s', rfl, C6, T6⟩
    have MA := M.out.turn C6 T6
    clear M O4 CC T6
    go_wp2_with fail
    refine (l1Small_any g 3 2 _ C6 (by omega) (by omega) (by omega) (by omega)).mono ?_; rintro e z1 ⟨A5, c5, X5, rfl, hS, O5, C7, T7⟩
    have hXl : X5.length ≤ 20 := by have := hS.1; omega
    have hby : b < y1.heap.size := MA.m.lt
    have MB := MA.turn C7 T7
    have nb5 : ∀ a, A5 = some a → a.block ≠ b := fun a e => by have := own_lo O5 a e; omega
    have M9 := MB.set3 l' s' (.slice A5 X5.length c5)
    have O9 := own_mono (own_at (own_at (own_at O5 0 (.int .i64 l') nb5) 1 (.int .i64 s') nb5) 2 (.slice A5 X5.length c5) nb5) (show w.heap.size + 1 ≤ y1.heap.size by omega)
    have NB5 := Lib.hid nb5
    have k0 := MB.m.cell 0; have k1 := MB.m.cell 1; have k2 := MB.m.cell 2; have j0 := MB.m.frozen 0; have j1 := MB.m.frozen 1; have j2 := MB.m.frozen 2
    simp at k0 k1 k2
    have HO9 := Lib.hid O9; have HM9 := Lib.hid M9
    clear O9 M9 MA MB O5 C6 C7 T7 hS nb5 hby
    go_upto_region 4 with fail
    obtain ⟨x8, hx8⟩ : ∃ W, W = (((z1.setCell ⟨b, 0, none⟩ (.int .i64 l')).setCell ⟨b, 1, none⟩ (.int .i64 s')).setCell ⟨b, 2, none⟩ (.slice A5 X5.length c5)) := ⟨_, rfl⟩
    rw [← hx8] at HO9 HM9 ⊢
    clear hx8 k0 k1 k2 j0 j1 j2
    have CC := HM9.out.g.cur
    go_wp2_with fail
    refine (l01Once_any g 15 _ CC (by omega) (by omega)).mono ?_; rintro e y2 ⟨bb, rfl, C6, T6⟩
    have M2 := Lib.hid (HM9.out.turn C6 T6)
    have O2 := Lib.hid (own_turn HO9.out T6 (show g < w.heap.size + 1 by omega))
    clear HM9 HO9 CC T6
    cases bb
    · skip
      have CC := M2.out.g.cur
      have HM := Lib.hid make_ints
      have MQ := M2.out
      have hlq := M2.out.m.cell 2
      clear hlq MQ
      go_wp2_with fail
      refine (l01Once_any g 25 _ CC (by omega) (by omega)).mono ?_; rintro e x3 ⟨bb, rfl, C7, T7⟩
      have M3 := Lib.hid (M2.out.turn C7 T7)
      have O3 := Lib.hid (own_turn O2.out T7 (show g < w.heap.size + 1 by omega))
      clear M2 O2 CC T7
      cases bb
      · skip
        have MM := M3.out
        have q0 := MM.m.cell 0; have q1 := MM.m.cell 1; have q2 := MM.m.cell 2; have p0 := MM.r.cell 0; have p1 := MM.r.cell 1; have p2 := MM.r.cell 2; have f0 := MM.r.frozen 0; have f1 := MM.r.frozen 1; have f2 := MM.r.frozen 2
        simp at q0 q1 q2 p0 p1 p2
        have D := ((MM.r.set_ 0 (.int .i64 l')).set_ 1 (.int .i64 s')).set_ 2 (.slice A5 X5.length c5)
        have d0 := D.cell 0; have d1 := D.cell 1; have d2 := D.cell 2
        simp at d0 d1 d2
        have hne1 : ¬ (b = w.heap.size) := by omega
        have hne2 : ¬ (w.heap.size = b) := by omega
        have HG := Lib.hid (((MM.g.set (b := w.heap.size) (j := 0) (Nat.le_refl _) (.int .i64 l')).set (b := w.heap.size) (j := 1) (Nat.le_refl _) (.int .i64 s')).set (b := w.heap.size) (j := 2) (Nat.le_refl _) (.slice A5 X5.length c5))
        have nr : ∀ a, A5 = some a → a.block ≠ w.heap.size := fun a e => by have := own_lo O3.out a e; omega
        have HO := Lib.hid (own_mono (own_at (own_at (own_at O3.out 0 (.int .i64 l') nr) 1 (.int .i64 s') nr) 2 (.slice A5 X5.length c5) nr) (show w.heap.size ≤ w.heap.size + 1 by omega))
        clear D MM nr
        go_wp2_with fail
        refine bodyPost_ret (l3Any_res rfl d0 d1 d2) rfl ?_
        exact ⟨_, _, X5, A5, c5, rfl, by omega, HO.out, HG.out.cur, HG.out.grown⟩
      · skip
        go_wp2_with fail
        refine (lit_pick g [0, 6, 7] x3 C7 (by simp) (by simp)).mono ?_; rintro e x4 ⟨v, rfl, hv, C8, T8⟩
        obtain ⟨q, rfl⟩ : ∃ q : Nat, v = q := ⟨v.toNat, by simp at hv; omega⟩
        have hq : q ≤ 7 := by simp at hv; omega
        have MX := M3.out.turn C8 T8
        have hmk := HM.out q (by omega)
        have bq : Below x4.heap.size x4 (x4.alloc (.cells (madeCells #[.int .i64 0] q) 3)) := (Below.refl _ _).alloc (Nat.le_refl _) _
        have MY := MX.past bq
        have OY := own_made x4 q (B := w.heap.size + 1) (by have := MX.r.lt; omega) (by simp only [maxLen]; omega)
        have hbx : b < x4.heap.size := MX.m.lt
        have nb9 : ∀ a, some (⟨x4.heap.size, 0, none⟩ : Addr) = some a → a.block ≠ b := fun a e => by injection e with e; subst e; exact Nat.ne_of_gt hbx
        have M9 := MY.set1 (.slice (some ⟨x4.heap.size, 0, none⟩) q q)
        have O9 := own_at OY 2 (.slice (some ⟨x4.heap.size, 0, none⟩) q q) nb9
        have hql : (List.replicate q (0 : Int)).length = q := List.length_replicate
        have k2 := MX.m.cell 2
        have k3 := (MX.past bq).m.frozen 2
        have k4 := (MX.past bq).m.cell 2
        simp at k2 k4
        obtain ⟨Z, hZ⟩ : ∃ Z : List Int, Z = List.replicate q 0 := ⟨_, rfl⟩
        rw [← hZ] at O9 hql
        have HO9 := Lib.hid O9; have HM9 := Lib.hid M9
        clear O9 M9 MX MY OY nb9 hbx M3 O3 C7 C8 T8 hv hZ HM bq
        subst hql
        go_upto_region 8 with fail
        obtain ⟨A9, hA9⟩ : ∃ A, A = some (⟨x4.heap.size, 0, none⟩ : Addr) := ⟨_, rfl⟩
        rw [← hA9] at HO9 HM9 ⊢
        obtain ⟨x9, hx9⟩ : ∃ W, W = (x4.alloc (.cells (madeCells #[.int .i64 0] Z.length) 3)).setCell ⟨b, 2, none⟩ (.slice A9 Z.length Z.length) := ⟨_, rfl⟩
        rw [← hx9] at HO9 HM9 ⊢
        have hZl : Z.length ≤ 20 := by omega
        clear hx9 hA9 hmk k2 k3 k4
        have MM := HM9.out
        have q0 := MM.m.cell 0; have q1 := MM.m.cell 1; have q2 := MM.m.cell 2; have p0 := MM.r.cell 0; have p1 := MM.r.cell 1; have p2 := MM.r.cell 2; have f0 := MM.r.frozen 0; have f1 := MM.r.frozen 1; have f2 := MM.r.frozen 2
        simp at q0 q1 q2 p0 p1 p2
        have D := ((MM.r.set_ 0 (.int .i64 l')).set_ 1 (.int .i64 s')).set_ 2 (.slice A9 Z.length Z.length)
        have d0 := D.cell 0; have d1 := D.cell 1; have d2 := D.cell 2
        simp at d0 d1 d2
        have hne1 : ¬ (b = w.heap.size) := by omega
        have hne2 : ¬ (w.heap.size = b) := by omega
        have HG := Lib.hid (((MM.g.set (b := w.heap.size) (j := 0) (Nat.le_refl _) (.int .i64 l')).set (b := w.heap.size) (j := 1) (Nat.le_refl _) (.int .i64 s')).set (b := w.heap.size) (j := 2) (Nat.le_refl _) (.slice A9 Z.length Z.length))
        have nr : ∀ a, A9 = some a → a.block ≠ w.heap.size := fun a e => by have := own_lo HO9.out a e; omega
        have HO := Lib.hid (own_mono (own_at (own_at (own_at HO9.out 0 (.int .i64 l') nr) 1 (.int .i64 s') nr) 2 (.slice A9 Z.length Z.length) nr) (show w.heap.size ≤ w.heap.size + 1 by omega))
        clear D MM nr
        go_wp2_with fail
        refine bodyPost_ret (l3Any_res rfl d0 d1 d2) rfl ?_
        exact ⟨_, _, Z, A9, Z.length, rfl, by omega, HO.out, HG.out.cur, HG.out.grown⟩
    · skip
      have bx := (Below.refl y2.heap.size y2).drew
      have MD := M2.out.past bx
      have OD := own_past O2.out bx
      have CD := MD.g.cur
      have e2 := MD.m.cell 2
      simp at e2
      have by0 : Below y2.drew.heap.size y2.drew (y2.drew.alloc (.cells #[.int .i64 100, .int .i64 101, .int .i64 (-100), .int .i64 (-101), .int .i64 (-9223372036854775808)] 3)) := (Below.refl _ _).alloc (Nat.le_refl _) _
      have e2' : (y2.alloc (.cells #[.int .i64 100, .int .i64 101, .int .i64 (-100), .int .i64 (-101), .int .i64 (-9223372036854775808)] 3)).cell? ⟨b, 2, none⟩ = some (.slice A5 X5.length c5) := (MD.past by0).m.cell 2
      clear bx by0 M2 O2 C6
      go_upto_region 5 with fail
      go_cut [4] from 27 to 34 (fun u4 wx => ∃ (A8 : Option Addr) (c8 : Nat) (Y : List Int), u4 = .bool false ∧ Y.length ≤ 50 ∧ Hid (∀ a, A8 = some a → a.block ≠ b) ∧ Hid (Own wx (w.heap.size + 1) A8 c8 Y) ∧ Hid (M3 w g b wx l' s' (.slice A8 Y.length c8)))
      case first =>
        go_region_law
          (first
            | (refine step_app (by rfl) (.tmp 28) (.tmp 32) (by rfl) (w.heap.size + 1) A5 c5 X5.length X5 rfl (by rfl) OA w7.heap.size v (by rfl) (by simp) (by omega) (by have := MA.r.lt; simp at this ⊢; omega) ?_; intro A8 c8 w8 O8 hw8 mv8; have M8 := Lib.hid (MA.wrote hw8 NB5.out (own_lo OA)); have i2 := M8.out.m.cell 2; have if2 := M8.out.m.frozen 2; simp at i2)
            | (go_simp; go_at_call 85; refine (lit_pick g [100, 101, -100, -101, -9223372036854775808] y2.drew CD (by simp) (by simp)).mono ?_; rintro e w7 ⟨v, rfl, hv, C7, T7⟩; have M7 := MD.turn C7 T7; have O7 := own_turn OD T7 (show g < w.heap.size + 1 by omega); have by_ : Below w7.heap.size w7 (w7.alloc (.cells #[.int .i64 v] 3)) := (Below.refl _ _).alloc (Nat.le_refl _) _; have OA := own_past O7 by_; have MA := M7.past by_; have j2 := M7.m.cell 2; simp at j2; have k2 : (w7.alloc (.cells #[.int .i64 v] 3)).cell? ⟨b, 2, none⟩ = some (.slice A5 X5.length c5) := MA.m.cell 2))
        all_goals
          have hbx : b < (w7.alloc (.cells #[.int .i64 v] 3)).heap.size := MA.m.lt
          have NB8 : Hid (∀ a, A8 = some a → a.block ≠ b) := moved_nb mv8 NB5.out hbx
          have hl8 : (X5 ++ [v]).length = X5.length + 1 := by simp
          have HM9 : Hid (M3 w g b (w8.setCell ⟨b, 2, none⟩ (.slice A8 (X5.length + 1) c8)) l' s' (.slice A8 (X5 ++ [v]).length c8)) := by rw [hl8]; exact M8.out.set1 (.slice A8 (X5.length + 1) c8)
          have HO9 := Lib.hid (own_at O8 2 (.slice A8 (X5.length + 1) c8) NB8.out)
          have hYl : (X5 ++ [v]).length ≤ 50 := by omega
          clear M8 O8 hw8 mv8 OA MA O7 M7 C7 T7 by_ j2 k2 e2 e2' MD OD CD hv hbx
          go_wp2_with fail
          go_meet
          exact ⟨A8, c8, X5 ++ [v], rfl, hYl, NB8, HO9, HM9⟩
      case rest =>
        clear MD OD CD e2 e2'
        obtain ⟨A8, c8, Y, rfl, hYl, NB8, HO9, HM9⟩ := hcut
        have CC := HM9.out.g.cur
        have HM := Lib.hid make_ints
        have MQ := HM9.out
        have hlq := HM9.out.m.cell 2
        clear hlq MQ
        go_wp2_with fail
        refine (l01Once_any g 25 _ CC (by omega) (by omega)).mono ?_; rintro e x5 ⟨bb, rfl, C7, T7⟩
        have M5 := Lib.hid (HM9.out.turn C7 T7)
        have O5 := Lib.hid (own_turn HO9.out T7 (show g < w.heap.size + 1 by omega))
        clear HM9 HO9 CC T7
        cases bb
        · skip
          have MM := M5.out
          have q0 := MM.m.cell 0; have q1 := MM.m.cell 1; have q2 := MM.m.cell 2; have p0 := MM.r.cell 0; have p1 := MM.r.cell 1; have p2 := MM.r.cell 2; have f0 := MM.r.frozen 0; have f1 := MM.r.frozen 1; have f2 := MM.r.frozen 2
          simp at q0 q1 q2 p0 p1 p2
          have D := ((MM.r.set_ 0 (.int .i64 l')).set_ 1 (.int .i64 s')).set_ 2 (.slice A8 Y.length c8)
          have d0 := D.cell 0; have d1 := D.cell 1; have d2 := D.cell 2
          simp at d0 d1 d2
          have hne1 : ¬ (b = w.heap.size) := by omega
          have hne2 : ¬ (w.heap.size = b) := by omega
          have HG := Lib.hid (((MM.g.set (b := w.heap.size) (j := 0) (Nat.le_refl _) (.int .i64 l')).set (b := w.heap.size) (j := 1) (Nat.le_refl _) (.int .i64 s')).set (b := w.heap.size) (j := 2) (Nat.le_refl _) (.slice A8 Y.length c8))
          have nr : ∀ a, A8 = some a → a.block ≠ w.heap.size := fun a e => by have := own_lo O5.out a e; omega
          have HO := Lib.hid (own_mono (own_at (own_at (own_at O5.out 0 (.int .i64 l') nr) 1 (.int .i64 s') nr) 2 (.slice A8 Y.length c8) nr) (show w.heap.size ≤ w.heap.size + 1 by omega))
          clear D MM nr
          go_wp2_with fail
          refine bodyPost_ret (l3Any_res rfl d0 d1 d2) rfl ?_
          exact ⟨_, _, Y, A8, c8, rfl, by omega, HO.out, HG.out.cur, HG.out.grown⟩
        · skip
          go_wp2_with fail
          refine (lit_pick g [0, 6, 7] x5 C7 (by simp) (by simp)).mono ?_; rintro e x6 ⟨v, rfl, hv, C8, T8⟩
          obtain ⟨q, rfl⟩ : ∃ q : Nat, v = q := ⟨v.toNat, by simp at hv; omega⟩
          have hq : q ≤ 7 := by simp at hv; omega
          have MX := M5.out.turn C8 T8
          have hmk := HM.out q (by omega)
          have bq : Below x6.heap.size x6 (x6.alloc (.cells (madeCells #[.int .i64 0] q) 3)) := (Below.refl _ _).alloc (Nat.le_refl _) _
          have MY := MX.past bq
          have OY := own_made x6 q (B := w.heap.size + 1) (by have := MX.r.lt; omega) (by simp only [maxLen]; omega)
          have hbx : b < x6.heap.size := MX.m.lt
          have nb9 : ∀ a, some (⟨x6.heap.size, 0, none⟩ : Addr) = some a → a.block ≠ b := fun a e => by injection e with e; subst e; exact Nat.ne_of_gt hbx
          have M9 := MY.set1 (.slice (some ⟨x6.heap.size, 0, none⟩) q q)
          have O9 := own_at OY 2 (.slice (some ⟨x6.heap.size, 0, none⟩) q q) nb9
          have hql : (List.replicate q (0 : Int)).length = q := List.length_replicate
          have k2 := MX.m.cell 2
          have k3 := (MX.past bq).m.frozen 2
          have k4 := (MX.past bq).m.cell 2
          simp at k2 k4
          obtain ⟨Z, hZ⟩ : ∃ Z : List Int, Z = List.replicate q 0 := ⟨_, rfl⟩
          rw [← hZ] at O9 hql
          have HO9 := Lib.hid O9; have HM9 := Lib.hid M9
          clear O9 M9 MX MY OY nb9 hbx M5 O5 C7 C8 T8 hv hZ HM bq
          subst hql
          go_upto_region 8 with fail
          obtain ⟨A9, hA9⟩ : ∃ A, A = some (⟨x6.heap.size, 0, none⟩ : Addr) := ⟨_, rfl⟩
          rw [← hA9] at HO9 HM9 ⊢
          obtain ⟨x9, hx9⟩ : ∃ W, W = (x6.alloc (.cells (madeCells #[.int .i64 0] Z.length) 3)).setCell ⟨b, 2, none⟩ (.slice A9 Z.length Z.length) := ⟨_, rfl⟩
          rw [← hx9] at HO9 HM9 ⊢
          have hZl : Z.length ≤ 20 := by omega
          clear hx9 hA9 hmk k2 k3 k4
          have MM := HM9.out
          have q0 := MM.m.cell 0; have q1 := MM.m.cell 1; have q2 := MM.m.cell 2; have p0 := MM.r.cell 0; have p1 := MM.r.cell 1; have p2 := MM.r.cell 2; have f0 := MM.r.frozen 0; have f1 := MM.r.frozen 1; have f2 := MM.r.frozen 2
          simp at q0 q1 q2 p0 p1 p2
          have D := ((MM.r.set_ 0 (.int .i64 l')).set_ 1 (.int .i64 s')).set_ 2 (.slice A9 Z.length Z.length)
          have d0 := D.cell 0; have d1 := D.cell 1; have d2 := D.cell 2
          simp at d0 d1 d2
          have hne1 : ¬ (b = w.heap.size) := by omega
          have hne2 : ¬ (w.heap.size = b) := by omega
          have HG := Lib.hid (((MM.g.set (b := w.heap.size) (j := 0) (Nat.le_refl _) (.int .i64 l')).set (b := w.heap.size) (j := 1) (Nat.le_refl _) (.int .i64 s')).set (b := w.heap.size) (j := 2) (Nat.le_refl _) (.slice A9 Z.length Z.length))
          have nr : ∀ a, A9 = some a → a.block ≠ w.heap.size := fun a e => by have := own_lo HO9.out a e; omega
          have HO := Lib.hid (own_mono (own_at (own_at (own_at HO9.out 0 (.int .i64 l') nr) 1 (.int .i64 s') nr) 2 (.slice A9 Z.length Z.length) nr) (show w.heap.size ≤ w.heap.size + 1 by omega))
          clear D MM nr
          go_wp2_with fail
          refine bodyPost_ret (l3Any_res rfl d0 d1 d2) rfl ?_
          exact ⟨_, _, Z, A9, Z.length, rfl, by omega, HO.out, HG.out.cur, HG.out.grown⟩
  · skip
    have CC := M.out.g.cur
    go_wp2_with fail
    rw [← HBB.out, ← HW.out]
    refine (l01Once_any g 4 _ CC (by omega) (by omega)).mono ?_; rintro e w5 ⟨bb, rfl, C5, T5⟩
    have M5 := Lib.hid (M.out.turn C5 T5)
    have O5 := Lib.hid (own_turn O4.out T5 (show g < w.heap.size + 1 by omega))
    clear M O4 CC T5
    cases bb
    · skip
      go_upto_region 4 with fail
      have CC := M5.out.g.cur
      go_wp2_with fail
      refine (l01Once_any g 15 _ CC (by omega) (by omega)).mono ?_; rintro e y7 ⟨bb, rfl, C6, T6⟩
      have M7 := Lib.hid (M5.out.turn C6 T6)
      have O7 := Lib.hid (own_turn O5.out T6 (show g < w.heap.size + 1 by omega))
      clear M5 O5 CC T6
      cases bb
      · skip
        have CC := M7.out.g.cur
        have HM := Lib.hid make_ints
        have MQ := M7.out
        have hlq := M7.out.m.cell 2
        clear hlq MQ
        go_wp2_with fail
        refine (l01Once_any g 25 _ CC (by omega) (by omega)).mono ?_; rintro e x8 ⟨bb, rfl, C7, T7⟩
        have M8 := Lib.hid (M7.out.turn C7 T7)
        have O8 := Lib.hid (own_turn O7.out T7 (show g < w.heap.size + 1 by omega))
        clear M7 O7 CC T7
        cases bb
        · skip
          have MM := M8.out
          have q0 := MM.m.cell 0; have q1 := MM.m.cell 1; have q2 := MM.m.cell 2; have p0 := MM.r.cell 0; have p1 := MM.r.cell 1; have p2 := MM.r.cell 2; have f0 := MM.r.frozen 0; have f1 := MM.r.frozen 1; have f2 := MM.r.frozen 2
          simp at q0 q1 q2 p0 p1 p2
          have D := ((MM.r.set_ 0 (.int .i64 l)).set_ 1 (.int .i64 s)).set_ 2 (.slice A X.length c)
          have d0 := D.cell 0; have d1 := D.cell 1; have d2 := D.cell 2
          simp at d0 d1 d2
          have hne1 : ¬ (b = w.heap.size) := by omega
          have hne2 : ¬ (w.heap.size = b) := by omega
          have HG := Lib.hid (((MM.g.set (b := w.heap.size) (j := 0) (Nat.le_refl _) (.int .i64 l)).set (b := w.heap.size) (j := 1) (Nat.le_refl _) (.int .i64 s)).set (b := w.heap.size) (j := 2) (Nat.le_refl _) (.slice A X.length c))
          have nr : ∀ a, A = some a → a.block ≠ w.heap.size := fun a e => by have := own_lo O8.out a e; omega
          have HO := Lib.hid (own_mono (own_at (own_at (own_at O8.out 0 (.int .i64 l) nr) 1 (.int .i64 s) nr) 2 (.slice A X.length c) nr) (show w.heap.size ≤ w.heap.size + 1 by omega))
          clear D MM nr
          go_wp2_with fail
          refine bodyPost_ret (l3Any_res rfl d0 d1 d2) rfl ?_
          exact ⟨_, _, X, A, c, rfl, by omega, HO.out, HG.out.cur, HG.out.grown⟩
        · skip
          go_wp2_with fail
          refine (lit_pick g [0, 6, 7] x8 C7 (by simp) (by simp)).mono ?_; rintro e x9 ⟨v, rfl, hv, C8, T8⟩
          obtain ⟨q, rfl⟩ : ∃ q : Nat, v = q := ⟨v.toNat, by simp at hv; omega⟩
          have hq : q ≤ 7 := by simp at hv; omega
          have MX := M8.out.turn C8 T8
          have hmk := HM.out q (by omega)
          have bq : Below x9.heap.size x9 (x9.alloc (.cells (madeCells #[.int .i64 0] q) 3)) := (Below.refl _ _).alloc (Nat.le_refl _) _
          have MY := MX.past bq
          have OY := own_made x9 q (B := w.heap.size + 1) (by have := MX.r.lt; omega) (by simp only [maxLen]; omega)
          have hbx : b < x9.heap.size := MX.m.lt
          have nb9 : ∀ a, some (⟨x9.heap.size, 0, none⟩ : Addr) = some a → a.block ≠ b := fun a e => by injection e with e; subst e; exact Nat.ne_of_gt hbx
          have M9 := MY.set1 (.slice (some ⟨x9.heap.size, 0, none⟩) q q)
          have O9 := own_at OY 2 (.slice (some ⟨x9.heap.size, 0, none⟩) q q) nb9
          have hql : (List.replicate q (0 : Int)).length = q := List.length_replicate
          have k2 := MX.m.cell 2
          have k3 := (MX.past bq).m.frozen 2
          have k4 := (MX.past bq).m.cell 2
          simp at k2 k4
          obtain ⟨Z, hZ⟩ : ∃ Z : List Int, Z = List.replicate q 0 := ⟨_, rfl⟩
          rw [← hZ] at O9 hql
          have HO9 := Lib.hid O9; have HM9 := Lib.hid M9
          clear O9 M9 MX MY OY nb9 hbx M8 O8 C7 C8 T8 hv hZ HM bq
          subst hql
          go_upto_region 8 with fail
          obtain ⟨A9, hA9⟩ : ∃ A, A = some (⟨x9.heap.size, 0, none⟩ : Addr) := ⟨_, rfl⟩
          rw [← hA9] at HO9 HM9 ⊢
          obtain ⟨x9, hx9⟩ : ∃ W, W = (x9.alloc (.cells (madeCells #[.int .i64 0] Z.length) 3)).setCell ⟨b, 2, none⟩ (.slice A9 Z.length Z.length) := ⟨_, rfl⟩
          rw [← hx9] at HO9 HM9 ⊢
          have hZl : Z.length ≤ 20 := by omega
          clear hx9 hA9 hmk k2 k3 k4
          have MM := HM9.out
          have q0 := MM.m.cell 0; have q1 := MM.m.cell 1; have q2 := MM.m.cell 2; have p0 := MM.r.cell 0; have p1 := MM.r.cell 1; have p2 := MM.r.cell 2; have f0 := MM.r.frozen 0; have f1 := MM.r.frozen 1; have f2 := MM.r.frozen 2
          simp at q0 q1 q2 p0 p1 p2
          have D := ((MM.r.set_ 0 (.int .i64 l)).set_ 1 (.int .i64 s)).set_ 2 (.slice A9 Z.length Z.length)
          have d0 := D.cell 0; have d1 := D.cell 1; have d2 := D.cell 2
          simp at d0 d1 d2
          have hne1 : ¬ (b = w.heap.size) := by omega
          have hne2 : ¬ (w.heap.size = b) := by omega
          have HG := Lib.hid (((MM.g.set (b := w.heap.size) (j := 0) (Nat.le_refl _) (.int .i64 l)).set (b := w.heap.size) (j := 1) (Nat.le_refl _) (.int .i64 s)).set (b := w.heap.size) (j := 2) (Nat.le_refl _) (.slice A9 Z.length Z.length))
          have nr : ∀ a, A9 = some a → a.block ≠ w.heap.size := fun a e => by have := own_lo HO9.out a e; omega
          have HO := Lib.hid (own_mono (own_at (own_at (own_at HO9.out 0 (.int .i64 l) nr) 1 (.int .i64 s) nr) 2 (.slice A9 Z.length Z.length) nr) (show w.heap.size ≤ w.heap.size + 1 by omega))
          clear D MM nr
          go_wp2_with fail
          refine bodyPost_ret (l3Any_res rfl d0 d1 d2) rfl ?_
          exact ⟨_, _, Z, A9, Z.length, rfl, by omega, HO.out, HG.out.cur, HG.out.grown⟩
      · skip
        have bx := (Below.refl y7.heap.size y7).drew
        have MD := M7.out.past bx
        have OD := own_past O7.out bx
        have CD := MD.g.cur
        have e2 := MD.m.cell 2
        simp at e2
        have by0 : Below y7.drew.heap.size y7.drew (y7.drew.alloc (.cells #[.int .i64 100, .int .i64 101, .int .i64 (-100), .int .i64 (-101), .int .i64 (-9223372036854775808)] 3)) := (Below.refl _ _).alloc (Nat.le_refl _) _
        have e2' : (y7.alloc (.cells #[.int .i64 100, .int .i64 101, .int .i64 (-100), .int .i64 (-101), .int .i64 (-9223372036854775808)] 3)).cell? ⟨b, 2, none⟩ = some (.slice A X.length c) := (MD.past by0).m.cell 2
        clear bx by0 M7 O7 C6
        go_upto_region 5 with fail
        go_cut [4] from 27 to 34 (fun u4 wx => ∃ (A8 : Option Addr) (c8 : Nat) (Y : List Int), u4 = .bool true ∧ Y.length ≤ 50 ∧ Hid (∀ a, A8 = some a → a.block ≠ b) ∧ Hid (Own wx (w.heap.size + 1) A8 c8 Y) ∧ Hid (M3 w g b wx l s (.slice A8 Y.length c8)))
        case first =>
          go_region_law
            (first
              | (refine step_app (by rfl) (.tmp 28) (.tmp 32) (by rfl) (w.heap.size + 1) A c X.length X rfl (by rfl) OA w7.heap.size v (by rfl) (by simp) (by omega) (by have := MA.r.lt; simp at this ⊢; omega) ?_; intro A8 c8 w8 O8 hw8 mv8; have M8 := Lib.hid (MA.wrote hw8 NB.out (own_lo OA)); have i2 := M8.out.m.cell 2; have if2 := M8.out.m.frozen 2; simp at i2)
              | (go_simp; go_at_call 85; refine (lit_pick g [100, 101, -100, -101, -9223372036854775808] y7.drew CD (by simp) (by simp)).mono ?_; rintro e w7 ⟨v, rfl, hv, C7, T7⟩; have M7 := MD.turn C7 T7; have O7 := own_turn OD T7 (show g < w.heap.size + 1 by omega); have by_ : Below w7.heap.size w7 (w7.alloc (.cells #[.int .i64 v] 3)) := (Below.refl _ _).alloc (Nat.le_refl _) _; have OA := own_past O7 by_; have MA := M7.past by_; have j2 := M7.m.cell 2; simp at j2; have k2 : (w7.alloc (.cells #[.int .i64 v] 3)).cell? ⟨b, 2, none⟩ = some (.slice A X.length c) := MA.m.cell 2))
          all_goals
            have hbx : b < (w7.alloc (.cells #[.int .i64 v] 3)).heap.size := MA.m.lt
            have NB8 : Hid (∀ a, A8 = some a → a.block ≠ b) := moved_nb mv8 NB.out hbx
            have hl8 : (X ++ [v]).length = X.length + 1 := by simp
            have HM9 : Hid (M3 w g b (w8.setCell ⟨b, 2, none⟩ (.slice A8 (X.length + 1) c8)) l s (.slice A8 (X ++ [v]).length c8)) := by rw [hl8]; exact M8.out.set1 (.slice A8 (X.length + 1) c8)
            have HO9 := Lib.hid (own_at O8 2 (.slice A8 (X.length + 1) c8) NB8.out)
            have hYl : (X ++ [v]).length ≤ 50 := by omega
            clear M8 O8 hw8 mv8 OA MA O7 M7 C7 T7 by_ j2 k2 e2 e2' MD OD CD hv hbx
            go_wp2_with fail
            go_meet
            exact ⟨A8, c8, X ++ [v], rfl, hYl, NB8, HO9, HM9⟩
        case rest =>
          clear MD OD CD e2 e2'
          obtain ⟨A8, c8, Y, rfl, hYl, NB8, HO9, HM9⟩ := hcut
          have CC := HM9.out.g.cur
          have HM := Lib.hid make_ints
          have MQ := HM9.out
          have hlq := HM9.out.m.cell 2
          clear hlq MQ
          go_wp2_with fail
          refine (l01Once_any g 25 _ CC (by omega) (by omega)).mono ?_; rintro e x10 ⟨bb, rfl, C7, T7⟩
          have M10 := Lib.hid (HM9.out.turn C7 T7)
          have O10 := Lib.hid (own_turn HO9.out T7 (show g < w.heap.size + 1 by omega))
          clear HM9 HO9 CC T7
          cases bb
          · skip
            have MM := M10.out
            have q0 := MM.m.cell 0; have q1 := MM.m.cell 1; have q2 := MM.m.cell 2; have p0 := MM.r.cell 0; have p1 := MM.r.cell 1; have p2 := MM.r.cell 2; have f0 := MM.r.frozen 0; have f1 := MM.r.frozen 1; have f2 := MM.r.frozen 2
            simp at q0 q1 q2 p0 p1 p2
            have D := ((MM.r.set_ 0 (.int .i64 l)).set_ 1 (.int .i64 s)).set_ 2 (.slice A8 Y.length c8)
            have d0 := D.cell 0; have d1 := D.cell 1; have d2 := D.cell 2
            simp at d0 d1 d2
            have hne1 : ¬ (b = w.heap.size) := by omega
            have hne2 : ¬ (w.heap.size = b) := by omega
            have HG := Lib.hid (((MM.g.set (b := w.heap.size) (j := 0) (Nat.le_refl _) (.int .i64 l)).set (b := w.heap.size) (j := 1) (Nat.le_refl _) (.int .i64 s)).set (b := w.heap.size) (j := 2) (Nat.le_refl _) (.slice A8 Y.length c8))
            have nr : ∀ a, A8 = some a → a.block ≠ w.heap.size := fun a e => by have := own_lo O10.out a e; omega
            have HO := Lib.hid (own_mono (own_at (own_at (own_at O10.out 0 (.int .i64 l) nr) 1 (.int .i64 s) nr) 2 (.slice A8 Y.length c8) nr) (show w.heap.size ≤ w.heap.size + 1 by omega))
            clear D MM nr
            go_wp2_with fail
            refine bodyPost_ret (l3Any_res rfl d0 d1 d2) rfl ?_
            exact ⟨_, _, Y, A8, c8, rfl, by omega, HO.out, HG.out.cur, HG.out.grown⟩
          · skip
            go_wp2_with fail
            refine (lit_pick g [0, 6, 7] x10 C7 (by simp) (by simp)).mono ?_; rintro e x11 ⟨v, rfl, hv, C8, T8⟩
            obtain ⟨q, rfl⟩ : ∃ q : Nat, v = q := ⟨v.toNat, by simp at hv; omega⟩
            have hq : q ≤ 7 := by simp at hv; omega
            have MX := M10.out.turn C8 T8
            have hmk := HM.out q (by omega)
            have bq : Below x11.heap.size x11 (x11.alloc (.cells (madeCells #[.int .i64 0] q) 3)) := (Below.refl _ _).alloc (Nat.le_refl _) _
            have MY := MX.past bq
            have OY := own_made x11 q (B := w.heap.size + 1) (by have := MX.r.lt; omega) (by simp only [maxLen]; omega)
            have hbx : b < x11.heap.size := MX.m.lt
            have nb9 : ∀ a, some (⟨x11.heap.size, 0, none⟩ : Addr) = some a → a.block ≠ b := fun a e => by injection e with e; subst e; exact Nat.ne_of_gt hbx
            have M9 := MY.set1 (.slice (some ⟨x11.heap.size, 0, none⟩) q q)
            have O9 := own_at OY 2 (.slice (some ⟨x11.heap.size, 0, none⟩) q q) nb9
            have hql : (List.replicate q (0 : Int)).length = q := List.length_replicate
            have k2 := MX.m.cell 2
            have k3 := (MX.past bq).m.frozen 2
            have k4 := (MX.past bq).m.cell 2
            simp at k2 k4
            obtain ⟨Z, hZ⟩ : ∃ Z : List Int, Z = List.replicate q 0 := ⟨_, rfl⟩
            rw [← hZ] at O9 hql
            have HO9 := Lib.hid O9; have HM9 := Lib.hid M9
            clear O9 M9 MX MY OY nb9 hbx M10 O10 C7 C8 T8 hv hZ HM bq
            subst hql
            go_upto_region 8 with fail
            obtain ⟨A9, hA9⟩ : ∃ A, A = some (⟨x11.heap.size, 0, none⟩ : Addr) := ⟨_, rfl⟩
            rw [← hA9] at HO9 HM9 ⊢
            obtain ⟨x9, hx9⟩ : ∃ W, W = (x11.alloc (.cells (madeCells #[.int .i64 0] Z.length) 3)).setCell ⟨b, 2, none⟩ (.slice A9 Z.length Z.length) := ⟨_, rfl⟩
            rw [← hx9] at HO9 HM9 ⊢
            have hZl : Z.length ≤ 20 := by omega
            clear hx9 hA9 hmk k2 k3 k4
            have MM := HM9.out
            have q0 := MM.m.cell 0; have q1 := MM.m.cell 1; have q2 := MM.m.cell 2; have p0 := MM.r.cell 0; have p1 := MM.r.cell 1; have p2 := MM.r.cell 2; have f0 := MM.r.frozen 0; have f1 := MM.r.frozen 1; have f2 := MM.r.frozen 2
            simp at q0 q1 q2 p0 p1 p2
            have D := ((MM.r.set_ 0 (.int .i64 l)).set_ 1 (.int .i64 s)).set_ 2 (.slice A9 Z.length Z.length)
            have d0 := D.cell 0; have d1 := D.cell 1; have d2 := D.cell 2
            simp at d0 d1 d2
            have hne1 : ¬ (b = w.heap.size) := by omega
            have hne2 : ¬ (w.heap.size = b) := by omega
            have HG := Lib.hid (((MM.g.set (b := w.heap.size) (j := 0) (Nat.le_refl _) (.int .i64 l)).set (b := w.heap.size) (j := 1) (Nat.le_refl _) (.int .i64 s)).set (b := w.heap.size) (j := 2) (Nat.le_refl _) (.slice A9 Z.length Z.length))
            have nr : ∀ a, A9 = some a → a.block ≠ w.heap.size := fun a e => by have := own_lo HO9.out a e; omega
            have HO := Lib.hid (own_mono (own_at (own_at (own_at HO9.out 0 (.int .i64 l) nr) 1 (.int .i64 s) nr) 2 (.slice A9 Z.length Z.length) nr) (show w.heap.size ≤ w.heap.size + 1 by omega))
            clear D MM nr
            go_wp2_with fail
            refine bodyPost_ret (l3Any_res rfl d0 d1 d2) rfl ?_
            exact ⟨_, _, Z, A9, Z.length, rfl, by omega, HO.out, HG.out.cur, HG.out.grown⟩
    · skip
      have CC := M5.out.g.cur
      go_wp2_with fail
      refine (l2Any_any g _ CC).mono ?_; rintro e y12 ⟨l', s', rfl, C6, T6⟩
      have MA := M5.out.turn C6 T6
      clear M5 O5 CC T6
      go_wp2_with fail
      refine (l1Small_any g 3 2 _ C6 (by omega) (by omega) (by omega) (by omega)).mono ?_; rintro e z12 ⟨A5, c5, X5, rfl, hS, O5, C7, T7⟩
      have hXl : X5.length ≤ 20 := by have := hS.1; omega
      have hby : b < y12.heap.size := MA.m.lt
      have MB := MA.turn C7 T7
      have nb5 : ∀ a, A5 = some a → a.block ≠ b := fun a e => by have := own_lo O5 a e; omega
      have M9 := MB.set3 l' s' (.slice A5 X5.length c5)
      have O9 := own_mono (own_at (own_at (own_at O5 0 (.int .i64 l') nb5) 1 (.int .i64 s') nb5) 2 (.slice A5 X5.length c5) nb5) (show w.heap.size + 1 ≤ y12.heap.size by omega)
      have NB5 := Lib.hid nb5
      have k0 := MB.m.cell 0; have k1 := MB.m.cell 1; have k2 := MB.m.cell 2; have j0 := MB.m.frozen 0; have j1 := MB.m.frozen 1; have j2 := MB.m.frozen 2
      simp at k0 k1 k2
      have HO9 := Lib.hid O9; have HM9 := Lib.hid M9
      clear O9 M9 MA MB O5 C6 C7 T7 hS nb5 hby
      go_upto_region 4 with fail
      obtain ⟨x8, hx8⟩ : ∃ W, W = (((z12.setCell ⟨b, 0, none⟩ (.int .i64 l')).setCell ⟨b, 1, none⟩ (.int .i64 s')).setCell ⟨b, 2, none⟩ (.slice A5 X5.length c5)) := ⟨_, rfl⟩
      rw [← hx8] at HO9 HM9 ⊢
      clear hx8 k0 k1 k2 j0 j1 j2
      have CC := HM9.out.g.cur
      go_wp2_with fail
      refine (l01Once_any g 15 _ CC (by omega) (by omega)).mono ?_; rintro e y13 ⟨bb, rfl, C6, T6⟩
      have M13 := Lib.hid (HM9.out.turn C6 T6)
      have O13 := Lib.hid (own_turn HO9.out T6 (show g < w.heap.size + 1 by omega))
      clear HM9 HO9 CC T6
      cases bb
      · skip
        have CC := M13.out.g.cur
        have HM := Lib.hid make_ints
        have MQ := M13.out
        have hlq := M13.out.m.cell 2
        clear hlq MQ
        go_wp2_with fail
        refine (l01Once_any g 25 _ CC (by omega) (by omega)).mono ?_; rintro e x14 ⟨bb, rfl, C7, T7⟩
        have M14 := Lib.hid (M13.out.turn C7 T7)
        have O14 := Lib.hid (own_turn O13.out T7 (show g < w.heap.size + 1 by omega))
        clear M13 O13 CC T7
        cases bb
        · skip
          have MM := M14.out
          have q0 := MM.m.cell 0; have q1 := MM.m.cell 1; have q2 := MM.m.cell 2; have p0 := MM.r.cell 0; have p1 := MM.r.cell 1; have p2 := MM.r.cell 2; have f0 := MM.r.frozen 0; have f1 := MM.r.frozen 1; have f2 := MM.r.frozen 2
          simp at q0 q1 q2 p0 p1 p2
          have D := ((MM.r.set_ 0 (.int .i64 l')).set_ 1 (.int .i64 s')).set_ 2 (.slice A5 X5.length c5)
          have d0 := D.cell 0; have d1 := D.cell 1; have d2 := D.cell 2
          simp at d0 d1 d2
          have hne1 : ¬ (b = w.heap.size) := by omega
          have hne2 : ¬ (w.heap.size = b) := by omega
          have HG := Lib.hid (((MM.g.set (b := w.heap.size) (j := 0) (Nat.le_refl _) (.int .i64 l')).set (b := w.heap.size) (j := 1) (Nat.le_refl _) (.int .i64 s')).set (b := w.heap.size) (j := 2) (Nat.le_refl _) (.slice A5 X5.length c5))
          have nr : ∀ a, A5 = some a → a.block ≠ w.heap.size := fun a e => by have := own_lo O14.out a e; omega
          have HO := Lib.hid (own_mono (own_at (own_at (own_at O14.out 0 (.int .i64 l') nr) 1 (.int .i64 s') nr) 2 (.slice A5 X5.length c5) nr) (show w.heap.size ≤ w.heap.size + 1 by omega))
          clear D MM nr
          go_wp2_with fail
          refine bodyPost_ret (l3Any_res rfl d0 d1 d2) rfl ?_
          exact ⟨_, _, X5, A5, c5, rfl, by omega, HO.out, HG.out.cur, HG.out.grown⟩
        · skip
          go_wp2_with fail
          refine (lit_pick g [0, 6, 7] x14 C7 (by simp) (by simp)).mono ?_; rintro e x15 ⟨v, rfl, hv, C8, T8⟩
          obtain ⟨q, rfl⟩ : ∃ q : Nat, v = q := ⟨v.toNat, by simp at hv; omega⟩
          have hq : q ≤ 7 := by simp at hv; omega
          have MX := M14.out.turn C8 T8
          have hmk := HM.out q (by omega)
          have bq : Below x15.heap.size x15 (x15.alloc (.cells (madeCells #[.int .i64 0] q) 3)) := (Below.refl _ _).alloc (Nat.le_refl _) _
          have MY := MX.past bq
          have OY := own_made x15 q (B := w.heap.size + 1) (by have := MX.r.lt; omega) (by simp only [maxLen]; omega)
          have hbx : b < x15.heap.size := MX.m.lt
          have nb9 : ∀ a, some (⟨x15.heap.size, 0, none⟩ : Addr) = some a → a.block ≠ b := fun a e => by injection e with e; subst e; exact Nat.ne_of_gt hbx
          have M9 := MY.set1 (.slice (some ⟨x15.heap.size, 0, none⟩) q q)
          have O9 := own_at OY 2 (.slice (some ⟨x15.heap.size, 0, none⟩) q q) nb9
          have hql : (List.replicate q (0 : Int)).length = q := List.length_replicate
          have k2 := MX.m.cell 2
          have k3 := (MX.past bq).m.frozen 2
          have k4 := (MX.past bq).m.cell 2
          simp at k2 k4
          obtain ⟨Z, hZ⟩ : ∃ Z : List Int, Z = List.replicate q 0 := ⟨_, rfl⟩
          rw [← hZ] at O9 hql
          have HO9 := Lib.hid O9; have HM9 := Lib.hid M9
          clear O9 M9 MX MY OY nb9 hbx M14 O14 C7 C8 T8 hv hZ HM bq
          subst hql
          go_upto_region 8 with fail
          obtain ⟨A9, hA9⟩ : ∃ A, A = some (⟨x15.heap.size, 0, none⟩ : Addr) := ⟨_, rfl⟩
          rw [← hA9] at HO9 HM9 ⊢
          obtain ⟨x9, hx9⟩ : ∃ W, W = (x15.alloc (.cells (madeCells #[.int .i64 0] Z.length) 3)).setCell ⟨b, 2, none⟩ (.slice A9 Z.length Z.length) := ⟨_, rfl⟩
          rw [← hx9] at HO9 HM9 ⊢
          have hZl : Z.length ≤ 20 := by omega
          clear hx9 hA9 hmk k2 k3 k4
          have MM := HM9.out
          have q0 := MM.m.cell 0; have q1 := MM.m.cell 1; have q2 := MM.m.cell 2; have p0 := MM.r.cell 0; have p1 := MM.r.cell 1; have p2 := MM.r.cell 2; have f0 := MM.r.frozen 0; have f1 := MM.r.frozen 1; have f2 := MM.r.frozen 2
          simp at q0 q1 q2 p0 p1 p2
          have D := ((MM.r.set_ 0 (.int .i64 l')).set_ 1 (.int .i64 s')).set_ 2 (.slice A9 Z.length Z.length)
          have d0 := D.cell 0; have d1 := D.cell 1; have d2 := D.cell 2
          simp at d0 d1 d2
          have hne1 : ¬ (b = w.heap.size) := by omega
          have hne2 : ¬ (w.heap.size = b) := by omega
          have HG := Lib.hid (((MM.g.set (b := w.heap.size) (j := 0) (Nat.le_refl _) (.int .i64 l')).set (b := w.heap.size) (j := 1) (Nat.le_refl _) (.int .i64 s')).set (b := w.heap.size) (j := 2) (Nat.le_refl _) (.slice A9 Z.length Z.length))
          have nr : ∀ a, A9 = some a → a.block ≠ w.heap.size := fun a e => by have := own_lo HO9.out a e; omega
          have HO := Lib.hid (own_mono (own_at (own_at (own_at HO9.out 0 (.int .i64 l') nr) 1 (.int .i64 s') nr) 2 (.slice A9 Z.length Z.length) nr) (show w.heap.size ≤ w.heap.size + 1 by omega))
          clear D MM nr
          go_wp2_with fail
          refine bodyPost_ret (l3Any_res rfl d0 d1 d2) rfl ?_
          exact ⟨_, _, Z, A9, Z.length, rfl, by omega, HO.out, HG.out.cur, HG.out.grown⟩
      · skip
        have bx := (Below.refl y13.heap.size y13).drew
        have MD := M13.out.past bx
        have OD := own_past O13.out bx
        have CD := MD.g.cur
        have e2 := MD.m.cell 2
        simp at e2
        have by0 : Below y13.drew.heap.size y13.drew (y13.drew.alloc (.cells #[.int .i64 100, .int .i64 101, .int .i64 (-100), .int .i64 (-101), .int .i64 (-9223372036854775808)] 3)) := (Below.refl _ _).alloc (Nat.le_refl _) _
        have e2' : (y13.alloc (.cells #[.int .i64 100, .int .i64 101, .int .i64 (-100), .int .i64 (-101), .int .i64 (-9223372036854775808)] 3)).cell? ⟨b, 2, none⟩ = some (.slice A5 X5.length c5) := (MD.past by0).m.cell 2
        clear bx by0 M13 O13 C6
        go_upto_region 5 with fail
        go_cut [4] from 27 to 34 (fun u4 wx => ∃ (A8 : Option Addr) (c8 : Nat) (Y : List Int), u4 = .bool true ∧ Y.length ≤ 50 ∧ Hid (∀ a, A8 = some a → a.block ≠ b) ∧ Hid (Own wx (w.heap.size + 1) A8 c8 Y) ∧ Hid (M3 w g b wx l' s' (.slice A8 Y.length c8)))
        case first =>
          go_region_law
            (first
              | (refine step_app (by rfl) (.tmp 28) (.tmp 32) (by rfl) (w.heap.size + 1) A5 c5 X5.length X5 rfl (by rfl) OA w7.heap.size v (by rfl) (by simp) (by omega) (by have := MA.r.lt; simp at this ⊢; omega) ?_; intro A8 c8 w8 O8 hw8 mv8; have M8 := Lib.hid (MA.wrote hw8 NB5.out (own_lo OA)); have i2 := M8.out.m.cell 2; have if2 := M8.out.m.frozen 2; simp at i2)
              | (go_simp; go_at_call 85; refine (lit_pick g [100, 101, -100, -101, -9223372036854775808] y13.drew CD (by simp) (by simp)).mono ?_; rintro e w7 ⟨v, rfl, hv, C7, T7⟩; have M7 := MD.turn C7 T7; have O7 := own_turn OD T7 (show g < w.heap.size + 1 by omega); have by_ : Below w7.heap.size w7 (w7.alloc (.cells #[.int .i64 v] 3)) := (Below.refl _ _).alloc (Nat.le_refl _) _; have OA := own_past O7 by_; have MA := M7.past by_; have j2 := M7.m.cell 2; simp at j2; have k2 : (w7.alloc (.cells #[.int .i64 v] 3)).cell? ⟨b, 2, none⟩ = some (.slice A5 X5.length c5) := MA.m.cell 2))
          all_goals
            have hbx : b < (w7.alloc (.cells #[.int .i64 v] 3)).heap.size := MA.m.lt
            have NB8 : Hid (∀ a, A8 = some a → a.block ≠ b) := moved_nb mv8 NB5.out hbx
            have hl8 : (X5 ++ [v]).length = X5.length + 1 := by simp
            have HM9 : Hid (M3 w g b (w8.setCell ⟨b, 2, none⟩ (.slice A8 (X5.length + 1) c8)) l' s' (.slice A8 (X5 ++ [v]).length c8)) := by rw [hl8]; exact M8.out.set1 (.slice A8 (X5.length + 1) c8)
            have HO9 := Lib.hid (own_at O8 2 (.slice A8 (X5.length + 1) c8) NB8.out)
            have hYl : (X5 ++ [v]).length ≤ 50 := by omega
            clear M8 O8 hw8 mv8 OA MA O7 M7 C7 T7 by_ j2 k2 e2 e2' MD OD CD hv hbx
            go_wp2_with fail
            go_meet
            exact ⟨A8, c8, X5 ++ [v], rfl, hYl, NB8, HO9, HM9⟩
        case rest =>
          clear MD OD CD e2 e2'
          obtain ⟨A8, c8, Y, rfl, hYl, NB8, HO9, HM9⟩ := hcut
          have CC := HM9.out.g.cur
          have HM := Lib.hid make_ints
          have MQ := HM9.out
          have hlq := HM9.out.m.cell 2
          clear hlq MQ
          go_wp2_with fail
          refine (l01Once_any g 25 _ CC (by omega) (by omega)).mono ?_; rintro e x16 ⟨bb, rfl, C7, T7⟩
          have M16 := Lib.hid (HM9.out.turn C7 T7)
          have O16 := Lib.hid (own_turn HO9.out T7 (show g < w.heap.size + 1 by omega))
          clear HM9 HO9 CC T7
          cases bb
          · skip
            have MM := M16.out
            have q0 := MM.m.cell 0; have q1 := MM.m.cell 1; have q2 := MM.m.cell 2; have p0 := MM.r.cell 0; have p1 := MM.r.cell 1; have p2 := MM.r.cell 2; have f0 := MM.r.frozen 0; have f1 := MM.r.frozen 1; have f2 := MM.r.frozen 2
            simp at q0 q1 q2 p0 p1 p2
            have D := ((MM.r.set_ 0 (.int .i64 l')).set_ 1 (.int .i64 s')).set_ 2 (.slice A8 Y.length c8)
            have d0 := D.cell 0; have d1 := D.cell 1; have d2 := D.cell 2
            simp at d0 d1 d2
            have hne1 : ¬ (b = w.heap.size) := by omega
            have hne2 : ¬ (w.heap.size = b) := by omega
            have HG := Lib.hid (((MM.g.set (b := w.heap.size) (j := 0) (Nat.le_refl _) (.int .i64 l')).set (b := w.heap.size) (j := 1) (Nat.le_refl _) (.int .i64 s')).set (b := w.heap.size) (j := 2) (Nat.le_refl _) (.slice A8 Y.length c8))
            have nr : ∀ a, A8 = some a → a.block ≠ w.heap.size := fun a e => by have := own_lo O16.out a e; omega
            have HO := Lib.hid (own_mono (own_at (own_at (own_at O16.out 0 (.int .i64 l') nr) 1 (.int .i64 s') nr) 2 (.slice A8 Y.length c8) nr) (show w.heap.size ≤ w.heap.size + 1 by omega))
            clear D MM nr
            go_wp2_with fail
            refine bodyPost_ret (l3Any_res rfl d0 d1 d2) rfl ?_
            exact ⟨_, _, Y, A8, c8, rfl, by omega, HO.out, HG.out.cur, HG.out.grown⟩
          · skip
            go_wp2_with fail
            refine (lit_pick g [0, 6, 7] x16 C7 (by simp) (by simp)).mono ?_; rintro e x17 ⟨v, rfl, hv, C8, T8⟩
            obtain ⟨q, rfl⟩ : ∃ q : Nat, v = q := ⟨v.toNat, by simp at hv; omega⟩
            have hq : q ≤ 7 := by simp at hv; omega
            have MX := M16.out.turn C8 T8
            have hmk := HM.out q (by omega)
            have bq : Below x17.heap.size x17 (x17.alloc (.cells (madeCells #[.int .i64 0] q) 3)) := (Below.refl _ _).alloc (Nat.le_refl _) _
            have MY := MX.past bq
            have OY := own_made x17 q (B := w.heap.size + 1) (by have := MX.r.lt; omega) (by simp only [maxLen]; omega)
            have hbx : b < x17.heap.size := MX.m.lt
            have nb9 : ∀ a, some (⟨x17.heap.size, 0, none⟩ : Addr) = some a → a.block ≠ b := fun a e => by injection e with e; subst e; exact Nat.ne_of_gt hbx
            have M9 := MY.set1 (.slice (some ⟨x17.heap.size, 0, none⟩) q q)
            have O9 := own_at OY 2 (.slice (some ⟨x17.heap.size, 0, none⟩) q q) nb9
            have hql : (List.replicate q (0 : Int)).length = q := List.length_replicate
            have k2 := MX.m.cell 2
            have k3 := (MX.past bq).m.frozen 2
            have k4 := (MX.past bq).m.cell 2
            simp at k2 k4
            obtain ⟨Z, hZ⟩ : ∃ Z : List Int, Z = List.replicate q 0 := ⟨_, rfl⟩
            rw [← hZ] at O9 hql
            have HO9 := Lib.hid O9; have HM9 := Lib.hid M9
            clear O9 M9 MX MY OY nb9 hbx M16 O16 C7 C8 T8 hv hZ HM bq
            subst hql
            go_upto_region 8 with fail
            obtain ⟨A9, hA9⟩ : ∃ A, A = some (⟨x17.heap.size, 0, none⟩ : Addr) := ⟨_, rfl⟩
            rw [← hA9] at HO9 HM9 ⊢
            obtain ⟨x9, hx9⟩ : ∃ W, W = (x17.alloc (.cells (madeCells #[.int .i64 0] Z.length) 3)).setCell ⟨b, 2, none⟩ (.slice A9 Z.length Z.length) := ⟨_, rfl⟩
            rw [← hx9] at HO9 HM9 ⊢
            have hZl : Z.length ≤ 20 := by omega
            clear hx9 hA9 hmk k2 k3 k4
            have MM := HM9.out
            have q0 := MM.m.cell 0; have q1 := MM.m.cell 1; have q2 := MM.m.cell 2; have p0 := MM.r.cell 0; have p1 := MM.r.cell 1; have p2 := MM.r.cell 2; have f0 := MM.r.frozen 0; have f1 := MM.r.frozen 1; have f2 := MM.r.frozen 2
            simp at q0 q1 q2 p0 p1 p2
            have D := ((MM.r.set_ 0 (.int .i64 l')).set_ 1 (.int .i64 s')).set_ 2 (.slice A9 Z.length Z.length)
            have d0 := D.cell 0; have d1 := D.cell 1; have d2 := D.cell 2
            simp at d0 d1 d2
            have hne1 : ¬ (b = w.heap.size) := by omega
            have hne2 : ¬ (w.heap.size = b) := by omega
            have HG := Lib.hid (((MM.g.set (b := w.heap.size) (j := 0) (Nat.le_refl _) (.int .i64 l')).set (b := w.heap.size) (j := 1) (Nat.le_refl _) (.int .i64 s')).set (b := w.heap.size) (j := 2) (Nat.le_refl _) (.slice A9 Z.length Z.length))
            have nr : ∀ a, A9 = some a → a.block ≠ w.heap.size := fun a e => by have := own_lo HO9.out a e; omega
            have HO := Lib.hid (own_mono (own_at (own_at (own_at HO9.out 0 (.int .i64 l') nr) 1 (.int .i64 s') nr) 2 (.slice A9 Z.length Z.length) nr) (show w.heap.size ≤ w.heap.size + 1 by omega))
            clear D MM nr
            go_wp2_with fail
            refine bodyPost_ret (l3Any_res rfl d0 d1 d2) rfl ?_
            exact ⟨_, _, Z, A9, Z.length, rfl, by omega, HO.out, HG.out.cur, HG.out.grown⟩
end Go.Proofs.YtgkijkenbjjnmaaGreatDoor
