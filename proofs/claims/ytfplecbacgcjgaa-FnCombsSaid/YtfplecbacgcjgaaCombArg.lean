/- How an argument that is a state of a comb is opened; contracts of the laws' own helpers on it. -/
import Derived.Test.YtfplecbacgcjgaaCombSt
import Derived.Test.YtfplecbacgcjgaaMatFn
import Derived.Test.YtfplecbacgcjgaaGen
namespace Go.Proofs.Ytfplecbacgcjgaa
open Go.RowKit
set_option linter.unusedVariables false
set_option linter.unusedSimpArgs false
section
open Go.ChangeShapes Go.WideShapes Go.Joins Go.Deep
variable {H : Type} {enc : TypeId × Value → H} {P : Program} {w : World} {base : Nat} {spare : Nat → Bool} {held : Bool}
theorem arg_cs {r : Reach} {b0 : Nat} {t e : TypeId} {f0 f1 f2 : Field} {v : Value} {d : DataW H} {p : List MemPlace} (hs : P.underlying t = some (.struct #[f0, f1, f2])) (hone : oneCellFields P #[f0, f1, f2] = true) (hC : P.cellsOf t = 3)
    (k0 : P.underlying f0.type = some (.slice e)) (k1 : P.underlying f1.type = some (.slice e)) (k2 : P.underlying f2.type = some (.int .i64)) (he : P.underlying e = some (.int .i64)) (hc : P.cellsOf e = 1) (hv : Value.okWide P w r b0 t v) (h : DataW.Trod enc P w base spare held t v d p) :
    ∃ A xs c A' ys c' q, v = .agg #[.slice A xs.length c, .slice A' ys.length c', .int .i64 q] ∧ xs.length ≤ c ∧ c ≤ maxLen ∧ ys.length ≤ c' ∧ c' ≤ maxLen ∧ Rd w w.heap.size A xs ∧ Rd w w.heap.size A' ys ∧ -9223372036854775808 ≤ q ∧ q ≤ 9223372036854775807 := by
  obtain ⟨v0, v1, v2, y0, y1, y2, n, rfl, _, _, h0, h1, h2⟩ := open_agg3 hs hone hC hv h
  obtain ⟨A, xs, c, rfl, l1, m1, r1, _⟩ := fld_ints k0 he hc h0
  obtain ⟨A', ys, c', rfl, l2, m2, r2, _⟩ := fld_ints k1 he hc h1
  obtain ⟨q, rfl, hq, hq'⟩ := fld_int k2 h2
  exact ⟨A, xs, c, A', ys, c', q, rfl, l1, m1, l2, m2, r1, r2, hq, hq'⟩
end
theorem toCombState_res {tmps : Array Value} {g : Nat} {w : World} {v0 v1 v2 : Value} (hp : tmps.getD 2 undef = .pointer (some ⟨g, 0, none⟩)) (c0 : w.cell? ⟨g, 0, none⟩ = some v0) (c1 : w.cell? ⟨g, 1, none⟩ = some v1) (c2 : w.cell? ⟨g, 2, none⟩ = some v2) :
    (results Try.f33 tmps).run Try.prog w = .ok (.agg #[v0, v1, v2]) w := by
  have hp' := hp
  simp at hp'
  simp only [results, Try.results33]
  simp [go_sem, hp', c0, c1, c2]
set_option maxHeartbeats 600000 in
theorem toCombState_any (A : Option Addr) (c : Nat) (xs : List Int) (A' : Option Addr) (c' : Nat) (ys : List Int) (p : Int) (w : World) (hr : Rd w w.heap.size A xs) (hr' : Rd w w.heap.size A' ys) (hn : xs.length ≤ 1048576) (hn' : ys.length ≤ 1048576) :
    Calls Try.prog 33 #[.agg #[.slice A xs.length c, .slice A' ys.length c', .int .i64 p]] w (RetCS w ⟨xs, ys, p⟩) := by
  obtain ⟨W, hW⟩ : ∃ W, W = ((w.alloc (.cells #[.slice A xs.length c, .slice A' ys.length c', .int .i64 p] 47)).alloc (.cells #[.slice none 0 0, .slice none 0 0, .int .i64 0] 35)).alloc (.cells #[.slice none 0 0, .slice none 0 0, .int .i64 0] 35) := ⟨_, rfl⟩
  have hb : Below w.heap.size w W := by rw [hW]; exact (((Below.refl _ _).alloc (Nat.le_refl _) _).alloc (by simp) _).alloc (by simp; omega) _
  have bb : Blk W w.heap.size 47 #[.slice A xs.length c, .slice A' ys.length c', .int .i64 p] := by
    rw [hW]; exact ((Blk.new w 47 #[.slice A xs.length c, .slice A' ys.length c', .int .i64 p]).alloc _).alloc _
  have br : Blk W (w.heap.size + 1) 35 #[.slice none 0 0, .slice none 0 0, .int .i64 0] := by
    rw [hW]; have := (Blk.new (w.alloc (.cells #[.slice A xs.length c, .slice A' ys.length c', .int .i64 p] 47)) 35 #[.slice none 0 0, .slice none 0 0, .int .i64 0]).alloc (.cells #[.slice none 0 0, .slice none 0 0, .int .i64 0] 35)
    simpa using this
  have bo : Blk W (w.heap.size + 1 + 1) 35 #[.slice none 0 0, .slice none 0 0, .int .i64 0] := by
    rw [hW]; have := Blk.new ((w.alloc (.cells #[.slice A xs.length c, .slice A' ys.length c', .int .i64 p] 47)).alloc (.cells #[.slice none 0 0, .slice none 0 0, .int .i64 0] 35)) 35 #[.slice none 0 0, .slice none 0 0, .int .i64 0]
    simpa using this
  have HW := Lib.hid hW
  have Hb := Lib.hid hb
  have BB := Lib.hid bb
  have BR := Lib.hid br
  have BO := Lib.hid bo
  have R := Lib.hid (hr.past hb)
  have RH := Lib.hid hr'
  have z0 : w.heap.size + 1 + 1 < W.heap.size := bo.lt
  clear hW hb bb br bo hr hr'
  go_enter Try.func33, Try.ntmps33
  go_wp2_with fail
  rw [← HW.out]
  refine (toIntS_any A c xs _ R.out hn).mono ?_; rintro e w1 ⟨A1, c1, rfl, O1, h1⟩
  have BB1 := BB.out.past h1
  have BR1 := BR.out.past h1
  have BO1 := BO.out.past h1
  have Hb1 := Lib.hid (thenB Hb.out h1)
  have n1 : ∀ a, A1 = some a → w.heap.size + 1 + 1 < a.block := fun a e => Nat.lt_of_lt_of_le z0 (own_lo O1 a e)
  have q1 := BO1.cell 0
  have qf1 := BO1.frozen 0
  have b1 := BB1.cell 1
  simp at q1 b1
  -- behind the first store
  have T1 := turn_set (turn_refl w1 (w.heap.size + 1 + 1)) (p := ⟨w.heap.size + 1 + 1, 0, none⟩) rfl (.slice A1 xs.length c1)
  have bb2 := BB1.far (p := ⟨w.heap.size + 1 + 1, 0, none⟩) (show w.heap.size ≠ w.heap.size + 1 + 1 by omega) (.slice A1 xs.length c1)
  have br2 := BR1.far (p := ⟨w.heap.size + 1 + 1, 0, none⟩) (by simp) (.slice A1 xs.length c1)
  have bo2 : Blk (w1.setCell ⟨w.heap.size + 1 + 1, 0, none⟩ (.slice A1 xs.length c1)) (w.heap.size + 1 + 1) 35 #[.slice A1 xs.length c1, .slice none 0 0, .int .i64 0] := BO1.set_ 0 (.slice A1 xs.length c1)
  have hne1 : ∀ a, A1 = some a → some a.block ≠ some (w.heap.size + 1 + 1) := fun a e e' => by have h := n1 a e; rw [Option.some.inj e'] at h; exact absurd h (Nat.lt_irrefl _)
  have o2 := own_grown O1 T1 hne1
  have hb2 := Hb1.out.setCell (p := ⟨w.heap.size + 1 + 1, 0, none⟩) (show w.heap.size ≤ w.heap.size + 1 + 1 by omega) (.slice A1 xs.length c1)
  have r2' : Rd (w1.setCell ⟨w.heap.size + 1 + 1, 0, none⟩ (.slice A1 xs.length c1)) (w1.setCell ⟨w.heap.size + 1 + 1, 0, none⟩ (.slice A1 xs.length c1)).heap.size A' ys := RH.out.past hb2
  obtain ⟨w2, hw2⟩ : ∃ w2, w2 = w1.setCell ⟨w.heap.size + 1 + 1, 0, none⟩ (.slice A1 xs.length c1) := ⟨_, rfl⟩
  rw [← hw2] at bb2 br2 bo2 o2 hb2 r2'
  have HW2 := Lib.hid hw2
  have BB2 := Lib.hid bb2
  have BR2 := Lib.hid br2
  have BO2 := Lib.hid bo2
  have O2 := Lib.hid (own_mono o2 (Nat.le_of_lt (Nat.lt_of_le_of_lt (by omega : w.heap.size ≤ w.heap.size + 1 + 1) z0)))
  have U2 := Lib.hid (own_hi o2)
  have Hb2 := Lib.hid hb2
  have R2' := Lib.hid r2'
  have N1 := Lib.hid n1
  clear hw2 bb2 br2 bo2 o2 hb2 r2' T1 BB1 BR1 BO1 O1 h1 n1 hne1 Hb BB BR BO R RH Hb1
  go_wp2_with fail
  rw [← HW2.out]
  clear q1 qf1 b1
  refine (toIntS_any A' c' ys _ R2'.out hn').mono ?_; rintro e w3 ⟨A2, c2, rfl, O3, h3⟩
  have BB3 := BB2.out.past h3
  have BR3 := BR2.out.past h3
  have BO3 := BO2.out.past h3
  have Hb3 := Lib.hid (thenB Hb2.out h3)
  have z2 : w.heap.size + 1 + 1 < w2.heap.size := BO2.out.lt
  have n2 : ∀ a, A2 = some a → w.heap.size + 1 + 1 < a.block := fun a e => Nat.lt_of_lt_of_le z2 (own_lo O3 a e)
  have ap : Hid (Apart A1 A2) := apart_lt U2.out (own_lo O3) (Nat.le_refl _)
  have O1' := own_past O2.out h3
  have q0 := BO3.cell 0
  have q1 := BO3.cell 1
  have q2 := BO3.cell 2
  have qf1 := BO3.frozen 1
  have qf2 := BO3.frozen 2
  have b2 := BB3.cell 2
  have r0 := BR3.cell 0
  have r1 := BR3.cell 1
  have r2 := BR3.cell 2
  have rf0 := BR3.frozen 0
  have rf1 := BR3.frozen 1
  have rf2 := BR3.frozen 2
  simp at q0 q1 q2 b2 r0 r1 r2
  have HBR3 := Lib.hid BR3
  have HO1 := Lib.hid O1'
  have HO3 := Lib.hid (own_mono O3 Hb2.out.size)
  have N2 := Lib.hid n2
  clear BB3 BR3 BO3 BB2 BR2 BO2 O2 U2 O3 O1' n2 h3 Hb2 R2' HW2
  go_wp2_with fail
  -- behind all the stores
  have T1 := turn_set (turn_refl w3 (w.heap.size + 1 + 1)) (p := ⟨w.heap.size + 1 + 1, 1, none⟩) rfl (.slice A2 ys.length c2)
  have T2 := turn_set T1 (p := ⟨w.heap.size + 1 + 1, 2, none⟩) rfl (.int .i64 p)
  have hne1 : ∀ a, A1 = some a → some a.block ≠ some (w.heap.size + 1 + 1) := fun a e e' => by have h := N1.out a e; rw [Option.some.inj e'] at h; exact absurd h (Nat.lt_irrefl _)
  have hne2 : ∀ a, A2 = some a → some a.block ≠ some (w.heap.size + 1 + 1) := fun a e e' => by have h := N2.out a e; rw [Option.some.inj e'] at h; exact absurd h (Nat.lt_irrefl _)
  have hme1 : ∀ a, A1 = some a → some a.block ≠ some (w.heap.size + 1) := fun a e e' => by have h := N1.out a e; rw [Option.some.inj e'] at h; exact absurd h (by simp)
  have hme2 : ∀ a, A2 = some a → some a.block ≠ some (w.heap.size + 1) := fun a e e' => by have h := N2.out a e; rw [Option.some.inj e'] at h; exact absurd h (by simp)
  have o1 := own_grown HO1.out T2 hne1
  have o3 := own_grown HO3.out T2 hne2
  have brx := (HBR3.out.far (p := ⟨w.heap.size + 1 + 1, 1, none⟩) (by simp) (.slice A2 ys.length c2)).far (p := ⟨w.heap.size + 1 + 1, 2, none⟩) (by simp) (.int .i64 p)
  have hbx := (Hb3.out.setCell (p := ⟨w.heap.size + 1 + 1, 1, none⟩) (show w.heap.size ≤ w.heap.size + 1 + 1 by omega) (.slice A2 ys.length c2)).setCell (p := ⟨w.heap.size + 1 + 1, 2, none⟩) (show w.heap.size ≤ w.heap.size + 1 + 1 by omega) (.int .i64 p)
  obtain ⟨w4, hw4⟩ : ∃ w4, w4 = (w3.setCell ⟨w.heap.size + 1 + 1, 1, none⟩ (.slice A2 ys.length c2)).setCell ⟨w.heap.size + 1 + 1, 2, none⟩ (.int .i64 p) := ⟨_, rfl⟩
  rw [← hw4] at o1 o3 brx hbx ⊢
  have S1 := turn_set (turn_refl w4 (w.heap.size + 1)) (p := ⟨w.heap.size + 1, 0, none⟩) rfl (.slice A1 xs.length c1)
  have S2 := turn_set S1 (p := ⟨w.heap.size + 1, 1, none⟩) rfl (.slice A2 ys.length c2)
  have S3 := turn_set S2 (p := ⟨w.heap.size + 1, 2, none⟩) rfl (.int .i64 p)
  have u1 := own_grown o1 S3 hme1
  have u3 := own_grown o3 S3 hme2
  have RF : Blk (((w4.setCell ⟨w.heap.size + 1, 0, none⟩ (.slice A1 xs.length c1)).setCell ⟨w.heap.size + 1, 1, none⟩ (.slice A2 ys.length c2)).setCell ⟨w.heap.size + 1, 2, none⟩ (.int .i64 p)) (w.heap.size + 1) 35 #[.slice A1 xs.length c1, .slice A2 ys.length c2, .int .i64 p] := ((brx.set_ 0 _).set_ 1 _).set_ 2 _
  refine bodyPost_ret (toCombState_res rfl (RF.cell 0) (RF.cell 1) (RF.cell 2)) rfl ?_
  exact ⟨A1, c1, A2, c2, rfl, u1, u3, ap.out, ((hbx.setCell (by simp) _).setCell (by simp) _).setCell (by simp) _⟩
theorem szCombState_any (A : Option Addr) (c n : Nat) (A' : Option Addr) (c' n' : Nat) (p k : Int) (w : World) (hn : n ≤ 9223372036854775807) (hn' : n' ≤ 9223372036854775807) (k1 : 0 ≤ k) (k2 : k ≤ 1048576) :
    Calls Try.prog 30 #[.agg #[.slice A n c, .slice A' n' c', .int .i64 p], .int .i64 k] w fun e w' => (∃ v : Int, e = .returned (.int .i64 v) ∧ ((v = -1 ∧ k < n + n') ∨ (v = k - n - n' ∧ 0 ≤ v))) ∧ Below w.heap.size w w' := by
  have hb : Below w.heap.size w (w.alloc (.cells #[.slice A n c, .slice A' n' c', .int .i64 p] 47)) := (Below.refl _ _).alloc (Nat.le_refl _) _
  have Hb := Lib.hid hb
  clear hb
  go_enter Try.func30, Try.ntmps30
  go_wp2_with fail
  refine (szIntS_any A c n k _ hn k1 k2).mono ?_
  rintro e w1 ⟨⟨v, rfl, hv⟩, rfl⟩
  rcases hv with ⟨rfl, hv⟩ | ⟨hv, hv0⟩
  · go_wp2_with fail
    go_ret
    exact ⟨⟨-1, rfl, .inl ⟨rfl, by omega⟩⟩, Hb.out⟩
  · have hvk : v ≤ 1048576 := by omega
    have Hv := Lib.hid hv
    clear hv
    go_wp2_with fail
    refine (szIntS_any A' c' n' v _ hn' hv0 hvk).mono ?_
    rintro e w1 ⟨⟨u, rfl, hu⟩, rfl⟩
    rcases hu with ⟨rfl, hu⟩ | ⟨hu, hu0⟩
    · go_wp2_with fail
      go_ret
      exact ⟨⟨-1, rfl, .inl ⟨rfl, by have := Hv.out; omega⟩⟩, Hb.out⟩
    · have Hu := Lib.hid hu
      clear hu
      go_wp2_with fail
      go_ret
      exact ⟨⟨u, rfl, .inr ⟨by have := Hv.out; have := Hu.out; omega, hu0⟩⟩, Hb.out⟩
end Go.Proofs.Ytfplecbacgcjgaa
