/- Contracts of MakeSequence, MakeAccumulator, MakeRests and MakeInputs. -/
import Derived.Test.YteabibkbmigpaaaGen3
namespace Go.Proofs.Yteabibkbmigpaaa
open Go.RowKit
set_option linter.unusedVariables false
set_option linter.unusedSimpArgs false
def RetP (P : List Int → Prop) (w : World) (e : Ending) (w' : World) : Prop := ∃ A c xs, e = .returned (.slice A (xs : List Int).length c) ∧ P xs ∧ Own w' w.heap.size A c xs ∧ Below w.heap.size w w'
set_option maxRecDepth 100000 in
theorem MakeSequence_any (A : Option Addr) (c n : Nat) (most size : Int) (w : World) (hr : RdB w w.heap.size A n) (hn : n ≤ 4294967296) (m0 : 0 ≤ most) (m1 : most ≤ 300) (s0 : 0 ≤ size) (s1 : size ≤ 1000000) :
    Calls Try.prog 51 #[.slice A n c, .int .i64 most, .int .i64 size] w (RetP (Small most size) w) := by
  go_enter Try.func51, Try.ntmps51
  go_wp2_with fail
  refine (l01New_any _ _ _ _ hr hn).mono ?_; rintro e w1 ⟨g, rfl, hg, C1, h1⟩
  have hs := h1.size
  go_wp2_with fail
  all_goals
    refine (l1Small_any g _ _ _ C1 (by omega) (by omega) (by omega) (by omega)).mono ?_; rintro e w2 ⟨A2, c2, xs, rfl, hS, O2, C2, T2⟩
    have hB := turn_past h1 T2 h1.size hg
    have hS' : Hid (Small most size xs) := by
      refine ⟨?_, fun x hx => ?_⟩
      · have := hS.1; omega
      · have := hS.2 x hx; omega
    clear hS
    go_wp2_with fail
    go_ret
    exact ⟨A2, c2, xs, rfl, hS'.out, own_mono O2 hs, hB⟩
def RetAcc (w : World) (e : Ending) (w' : World) : Prop := ∃ (o : Nat) (m : Int), e = .returned (.agg #[.int .i64 o, .int .i64 m]) ∧ 1 ≤ o ∧ o ≤ 4 ∧ 2 ≤ m ∧ m ≤ 61 ∧ Below w.heap.size w w'
theorem MakeAccumulator_res {tmps : Array Value} {g : Nat} {w : World} {v0 v1 : Value} (hp : tmps.getD 2 undef = .pointer (some ⟨g, 0, none⟩)) (c0 : w.cell? ⟨g, 0, none⟩ = some v0) (c1 : w.cell? ⟨g, 1, none⟩ = some v1) :
    (results Try.f15 tmps).run Try.prog w = .ok (.agg #[v0, v1]) w := by
  have hp' := hp
  simp at hp'
  simp only [results, Try.results15]
  simp [go_sem, hp', c0, c1]
set_option maxRecDepth 100000 in
set_option maxHeartbeats 400000 in
theorem MakeAccumulator_any (A : Option Addr) (c n : Nat) (w : World) (hr : RdB w w.heap.size A n) (hn : n ≤ 4294967296) : Calls Try.prog 15 #[.slice A n c] w (RetAcc w) := by
  have hb0 : Below w.heap.size w (w.alloc (.cells #[.int .i64 0, .int .i64 0] 24)) := (Below.refl _ _).alloc (Nat.le_refl _) _
  have B0 := Blk.new w 24 #[.int .i64 0, .int .i64 0]
  have R0 := hr.past hb0
  have Hb := Lib.hid hb0
  clear hb0
  go_enter Try.func15, Try.ntmps15
  go_wp2_with fail
  refine (l01New_any _ _ _ _ R0 hn).mono ?_; rintro e w1 ⟨g, rfl, hg, C1, h1⟩
  have B1 := B0.past h1
  replace Hb := Lib.hid (thenB Hb.out h1)
  have hg0 : w.heap.size < g := by simp at hg; omega
  have hz1 : w.heap.size + 1 ≤ w1.heap.size := B1.lt
  clear h1 B0 R0 hg
  go_wp2_with fail
  refine (l01Below_any g _ _ C1 (by omega) (by omega)).mono ?_; rintro e w2 ⟨v, rfl, v1, v2, C2, T2⟩
  have B2 := blk_turn B1 T2 (by omega)
  replace Hb := Lib.hid (turn_past Hb.out T2 (by omega) (by omega))
  clear T2 B1 C1
  go_wp2_with fail
  refine (l01Below_any g _ _ C2 (by omega) (by omega)).mono ?_; rintro e w3 ⟨u, rfl, u1, u2, C3, T3⟩
  have hz2 : w.heap.size < w2.heap.size := B2.lt
  have B3 := blk_turn B2 T3 (by omega)
  replace Hb := Lib.hid (turn_past Hb.out T3 (by omega) (by omega))
  have c0 := B3.cell 0
  have c1 := B3.cell 1
  have f0 := B3.frozen 0
  have f1 := B3.frozen 1
  have hz3 : w.heap.size < w3.heap.size := B3.lt
  simp at c0 c1
  clear T3 B2 C2
  go_wp2_with fail
  have D := (B3.set_ 0 (.int .i64 (1 + v))).set_ 1 (.int .i64 (2 + u))
  have d0 := D.cell 0
  have d1 := D.cell 1
  simp at d0 d1
  refine bodyPost_ret (MakeAccumulator_res rfl d0 d1) rfl ?_
  obtain ⟨j, hj⟩ : ∃ j : Nat, 1 + v = j := ⟨(1 + v).toNat, by omega⟩
  exact ⟨j, 2 + u, by rw [hj], by omega, by omega, by omega, by omega, (Hb.out.setCell (by simp) _).setCell (by simp) _⟩
theorem rests_snoc {m : Int} {xs : List Int} {x : Int} (h : Rests m xs) (h1 : 0 ≤ x) (h2 : x < m) : Rests m (xs ++ [x]) := fun y hy => by
  rw [List.mem_append] at hy
  rcases hy with hy | hy
  · exact h y hy
  · simp at hy; subst hy; exact ⟨h1, h2⟩
set_option maxRecDepth 100000 in
set_option maxHeartbeats 800000 in
theorem MakeRests_any (A : Option Addr) (c n : Nat) (o : Nat) (m : Int) (w : World) (hr : RdB w w.heap.size A n) (hn : n ≤ 4294967296) (ho : o ≤ 1000) (m1 : 2 ≤ m) (m2 : m ≤ 1048576) :
    Calls Try.prog 16 #[.slice A n c, .agg #[.int .i64 o, .int .i64 m]] w (RetP (fun xs => xs.length = o ∧ Rests m xs) w) := by
  have hb0 : Below w.heap.size w (w.alloc (.cells #[.int .i64 o, .int .i64 m] 24)) := (Below.refl _ _).alloc (Nat.le_refl _) _
  have B0 := Blk.new w 24 #[.int .i64 o, .int .i64 m]
  have R0 := hr.past hb0
  have Hb := Lib.hid hb0
  clear hb0
  go_enter Try.func16, Try.ntmps16
  go_wp2_with fail
  refine (l01New_any _ _ _ _ R0 hn).mono ?_; rintro e w1 ⟨g, rfl, hg, C1, h1⟩
  have B1 := B0.past h1
  replace Hb := Lib.hid (thenB Hb.out h1)
  have hg0 : w.heap.size < g := by simp at hg; omega
  have hb1 : Below w1.heap.size w1 (w1.alloc (.cells #[] 3)) := (Below.refl _ _).alloc (Nat.le_refl _) _
  have O2 := Lib.hid (own_empty w1 w1.heap.size (Nat.le_refl _))
  have B2 := Lib.hid (B1.past hb1)
  have C2 := Lib.hid (C1.past hb1)
  have hgl := C1.lt
  replace Hb := Lib.hid (thenB Hb.out hb1)
  have hz : w.heap.size + 1 ≤ w1.heap.size := B1.lt
  clear h1 B0 R0 hg hb1 B1 C1
  go_wp2_with fail
  go_loopw [6, 7] (fun q i wr => ∃ (k : Nat) (Aq : Option Addr) (cq : Nat) (xs : List Int), i = .int .i64 k ∧ k ≤ o ∧ q = .slice Aq k cq ∧ Hid (xs.length = k ∧ Rests m xs) ∧ Hid (Own wr w1.heap.size Aq cq xs) ∧ Hid (Cur wr g) ∧ Hid (Blk wr w.heap.size 24 #[.int .i64 o, .int .i64 m]) ∧ Hid (Below w.heap.size w wr) ∧ w1.heap.size ≤ wr.heap.size) (fun _ i _ => o - (intOf i).toNat)
  case atStart => exact ⟨0, _, 0, [], rfl, by omega, rfl, ⟨rfl, fun x hx => by cases hx⟩, O2.out, C2.out, B2.out, Hb.out, by simp⟩
  case round =>
    clear O2 B2 C2 Hb
    obtain ⟨k, Aq, cq, xs, rfl, hk, rfl, hS, hO, hC, BB, hB, hz1⟩ := hrel
    have c0 := BB.out.cell 0
    have c1 := BB.out.cell 1
    simp at c0 c1
    by_cases hlt : k < o
    · go_wp2_with fail
      refine (l01Below_any g _ _ hC.out (by omega) (by omega)).mono ?_; rintro e w2 ⟨v, rfl, v1, v2, C2, T2⟩
      have O2 := own_turn hO.out T2 hgl
      have B2 := blk_turn BB.out T2 (by omega)
      have hb2 := turn_past hB.out T2 hB.out.size (by omega)
      have hz2 : w1.heap.size ≤ w2.heap.size := Nat.le_trans hz1 T2.size
      have hl := hS.out.1
      have Hl := Lib.hid hl
      clear hl T2 hO hB BB c0 c1
      go_wp2_with (at_builtin; refine app_new rfl (.tmp 17) (.tmp 22) rfl w1.heap.size Aq cq k xs _ Hl.out rfl O2 rfl (by omega) hz2 ?_)
      intro A3 c3 w3 O3 hw3 mv3
      have C3 := Lib.hid (C2.wrote hw3 (own_lo O2) hgl)
      have B3 := Lib.hid (blk_wrote B2 hw3 (own_lo O2) (by omega))
      have hB3 := Lib.hid (below_app hb2 hw3 (own_mono O2 (by omega)) hb2.size)
      have hz3 : w1.heap.size ≤ w3.heap.size := Nat.le_trans hz2 hw3.size
      have S3 : Hid ((xs ++ [v]).length = k + 1 ∧ Rests m (xs ++ [v])) := ⟨by rw [List.length_append, Hl.out]; rfl, rests_snoc hS.out.2 v1 (by omega)⟩
      have OO3 := Lib.hid O3
      clear O3 hw3 mv3 O2 C2 B2 hb2
      go_wp2
      go_roundw
      case rel => exact ⟨k + 1, A3, c3, xs ++ [v], by go_num, by omega, rfl, S3.out, OO3.out, C3.out, B3.out, hB3.out, hz3⟩
      case measure => simp [intOf]; omega
    · obtain rfl : k = o := by omega
      go_wp2
      go_ret
      exact ⟨Aq, cq, xs, by rw [hS.out.1]; rfl, hS.out, own_mono hO.out (by omega), hB.out⟩
set_option maxRecDepth 100000 in
set_option maxHeartbeats 800000 in
theorem MakeInputs_any (A : Option Addr) (c n : Nat) (o : Nat) (m most : Int) (w : World) (hr : RdB w w.heap.size A n) (hn : n ≤ 4294967296) (m1 : 2 ≤ m) (m2 : m ≤ 1048576) (b1 : 1 ≤ most) (b2 : most ≤ 200) :
    Calls Try.prog 18 #[.slice A n c, .agg #[.int .i64 o, .int .i64 m], .int .i64 most] w (RetP (fun xs => (xs.length : Int) ≤ most - 1 ∧ Rests m xs) w) := by
  have hb0 : Below w.heap.size w (w.alloc (.cells #[.int .i64 o, .int .i64 m] 24)) := (Below.refl _ _).alloc (Nat.le_refl _) _
  have B0 := Blk.new w 24 #[.int .i64 o, .int .i64 m]
  have R0 := hr.past hb0
  have Hb := Lib.hid hb0
  clear hb0
  go_enter Try.func18, Try.ntmps18
  go_wp2_with fail
  refine (l01New_any _ _ _ _ R0 hn).mono ?_; rintro e w1 ⟨g, rfl, hg, C1, h1⟩
  have B1 := B0.past h1
  replace Hb := Lib.hid (thenB Hb.out h1)
  have hg0 : w.heap.size < g := by simp at hg; omega
  have hb1 : Below w1.heap.size w1 (w1.alloc (.cells #[] 3)) := (Below.refl _ _).alloc (Nat.le_refl _) _
  have O2 := own_empty w1 w1.heap.size (Nat.le_refl _)
  have B2 := B1.past hb1
  have C2 := C1.past hb1
  have hgl := C1.lt
  replace Hb := Lib.hid (thenB Hb.out hb1)
  have hz : w.heap.size + 1 ≤ w1.heap.size := B1.lt
  clear h1 B0 R0 hg hb1 B1 C1
  go_wp2_with fail
  all_goals
    refine (l01Below_any g _ _ C2 (by omega) (by omega)).mono ?_; rintro e w2 ⟨v, rfl, v1, v2, C3, T3⟩
    obtain ⟨j, rfl⟩ : ∃ j : Nat, v = j := ⟨v.toNat, by omega⟩
    have hz2 : w1.heap.size ≤ w2.heap.size := by have := T3.size; simp at this; omega
    have O3 := Lib.hid (own_turn O2 T3 hgl)
    have B3 := Lib.hid (blk_turn B2 T3 (by omega))
    have CC3 := Lib.hid C3
    replace Hb := Lib.hid (turn_past Hb.out T3 Hb.out.size (by omega))
    clear O2 B2 C2 C3 T3
    go_wp2_with fail
    go_loopw [8, 9] (fun q i wr => ∃ (k : Nat) (Aq : Option Addr) (cq : Nat) (xs : List Int), i = .int .i64 k ∧ (k : Int) ≤ most ∧ q = .slice Aq xs.length cq ∧ Hid ((xs.length : Int) + k ≤ most - 1 ∧ Rests m xs) ∧ Hid (Own wr w1.heap.size Aq cq xs) ∧ Hid (Cur wr g) ∧ Hid (Blk wr w.heap.size 24 #[.int .i64 o, .int .i64 m]) ∧ Hid (Below w.heap.size w wr) ∧ w1.heap.size ≤ wr.heap.size) (fun _ i _ => (intOf i).toNat)
    case atStart => exact ⟨j, _, 0, [], rfl, by omega, rfl, ⟨by simp; omega, fun x hx => by cases hx⟩, O3.out, CC3.out, B3.out, Hb.out, hz2⟩
    case round =>
      clear O3 B3 CC3 Hb hz2
      obtain ⟨k, Aq, cq, xs, rfl, hk, rfl, hS, hO, hC, BB, hB, hz1⟩ := hrel
      have c0 := BB.out.cell 0
      have c1 := BB.out.cell 1
      simp at c0 c1
      have hxl : xs.length ≤ 200 := by have := hS.out.1; omega
      by_cases hlt : 0 < k
      · go_wp2_with fail
        refine (l01Below_any g _ _ hC.out (by omega) (by omega)).mono ?_; rintro e w3 ⟨u, rfl, u1, u2, C2, T2⟩
        have O2 := own_turn hO.out T2 hgl
        have B2 := blk_turn BB.out T2 (by omega)
        have hb2 := turn_past hB.out T2 hB.out.size (by omega)
        have hz2 : w1.heap.size ≤ w3.heap.size := Nat.le_trans hz1 T2.size
        clear T2 hO hB BB c0 c1
        go_wp2_with (at_builtin; refine app_new rfl (.tmp 22) (.tmp 27) rfl w1.heap.size Aq cq xs.length xs _ rfl rfl O2 rfl (by omega) hz2 ?_)
        intro A4 c4 w4 O4 hw4 mv4
        have C4 := Lib.hid (C2.wrote hw4 (own_lo O2) hgl)
        have B4 := Lib.hid (blk_wrote B2 hw4 (own_lo O2) (by omega))
        have hB4 := Lib.hid (below_app hb2 hw4 (own_mono O2 (by omega)) hb2.size)
        have hz4 : w1.heap.size ≤ w4.heap.size := Nat.le_trans hz2 hw4.size
        have hl4 : Hid ((xs ++ [u]).length = xs.length + 1) := by simp [Hid]
        have S4 : Hid (((xs ++ [u]).length : Int) + (k - 1 : Nat) ≤ most - 1 ∧ Rests m (xs ++ [u])) := ⟨by have := hS.out.1; rw [hl4.out]; omega, rests_snoc hS.out.2 u1 (by omega)⟩
        have OO4 := Lib.hid O4
        clear O4 hw4 mv4 O2 C2 B2 hb2
        go_wp2
        go_roundw
        case rel => exact ⟨k - 1, A4, c4, xs ++ [u], by go_num, by omega, by rw [hl4.out], S4.out, OO4.out, C4.out, B4.out, hB4.out, hz4⟩
        case measure => simp [intOf]; omega
      · obtain rfl : k = 0 := by omega
        go_wp2
        go_ret
        exact ⟨Aq, cq, xs, rfl, ⟨by have := hS.out.1; omega, hS.out.2⟩, own_mono hO.out (by omega), hB.out⟩
end Go.Proofs.Yteabibkbmigpaaa
