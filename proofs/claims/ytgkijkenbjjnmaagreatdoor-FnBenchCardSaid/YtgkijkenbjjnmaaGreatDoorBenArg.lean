/- How an argument that is a bench is opened; contracts of the laws' own szBench and toBench. (Printed by mkbenarg.py.) -/
import Derived.Test.YtgkijkenbjjnmaaGreatDoorBench
import Derived.Test.YtgkijkenbjjnmaaGreatDoorMat
import Derived.Test.YtgkijkenbjjnmaaGreatDoorGen
import Derived.Deep.CutRange
namespace Go.Proofs.YtgkijkenbjjnmaaGreatDoor
open Go.RowKit
set_option linter.unusedVariables false
set_option linter.unusedSimpArgs false
section
open Go.ChangeShapes Go.WideShapes Go.Joins Go.Deep
variable {H : Type} {enc : TypeId × Value → H} {P : Program} {w : World} {base : Nat} {spare : Nat → Bool} {held : Bool}
theorem list5 {α : Type} {xs : List α} (h : xs.length = 5) : ∃ a b c d e, xs = [a, b, c, d, e] := by
  match xs, h with
  | [a, b, c, d, e], _ => exact ⟨a, b, c, d, e, rfl⟩
theorem array7 {α : Type} {cs : Array α} (h : cs.size = 7) : ∃ a b c d e f g, cs = #[a, b, c, d, e, f, g] := by
  obtain ⟨l⟩ := cs
  match l, h with
  | [a, b, c, d, e, f, g], _ => exact ⟨a, b, c, d, e, f, g, rfl⟩
theorem arg_be {r : Reach} {b0 : Nat} {t e : TypeId} {f0 f1 f2 f3 f4 g0 g1 k0 k1 : Field} {v : Value} {d : DataW H} {p : List MemPlace} (hs : P.underlying t = some (.struct #[f0, f1, f2, f3, f4])) (hm : P.underlying f0.type = some (.struct #[g0, g1])) (hq : P.underlying g0.type = some (.struct #[k0, k1])) (hC : P.cellsOf t = 7)
    (o : f0.offset = 0 ∧ P.cellsOf f0.type = 3 ∧ f1.offset = 3 ∧ P.cellsOf f1.type = 1 ∧ f2.offset = 4 ∧ P.cellsOf f2.type = 1 ∧ f3.offset = 5 ∧ P.cellsOf f3.type = 1 ∧ f4.offset = 6 ∧ P.cellsOf f4.type = 1)
    (o2 : g0.offset = 0 ∧ P.cellsOf g0.type = 2 ∧ g1.offset = 2 ∧ P.cellsOf g1.type = 1) (o3 : k0.offset = 0 ∧ P.cellsOf k0.type = 1 ∧ k1.offset = 1 ∧ P.cellsOf k1.type = 1)
    (u0 : P.underlying k0.type = some (.int .i64)) (u1 : P.underlying k1.type = some (.int .i64)) (u2 : P.underlying g1.type = some (.slice e)) (u3 : P.underlying f1.type = some (.slice e)) (u4 : P.underlying f2.type = some (.slice e)) (u5 : P.underlying f3.type = some (.slice e)) (u6 : P.underlying f4.type = some (.slice e))
    (he : P.underlying e = some (.int .i64)) (hc : P.cellsOf e = 1) (hv : Value.okWide P w r b0 t v) (h : DataW.Trod enc P w base spare held t v d p) :
    ∃ l s A1 x1 c1 A2 x2 c2 A3 x3 c3 A4 x4 c4 A5 x5 c5, v = .agg #[.int .i64 l, .int .i64 s, .slice A1 (List.length x1) c1, .slice A2 (List.length x2) c2, .slice A3 (List.length x3) c3, .slice A4 (List.length x4) c4, .slice A5 (List.length x5) c5] ∧ List.length x1 ≤ c1 ∧ c1 ≤ maxLen ∧ Rd w w.heap.size A1 x1 ∧ List.length x2 ≤ c2 ∧ c2 ≤ maxLen ∧ Rd w w.heap.size A2 x2 ∧ List.length x3 ≤ c3 ∧ c3 ≤ maxLen ∧ Rd w w.heap.size A3 x3 ∧ List.length x4 ≤ c4 ∧ c4 ≤ maxLen ∧ Rd w w.heap.size A4 x4 ∧ List.length x5 ≤ c5 ∧ c5 ≤ maxLen ∧ Rd w w.heap.size A5 x5 := by
  obtain ⟨cs, rfl, hsz⟩ := okWide_struct hs hv
  obtain ⟨a0, a1, a2, a3, a4, a5, a6, rfl⟩ := array7 (hsz.trans hC)
  obtain ⟨fuel, hf⟩ := h
  obtain ⟨xs, n, _, _, _, hlen, hg⟩ := DataW.trod_struct hs hf
  obtain ⟨y0, y1, y2, y3, y4, rfl⟩ := list5 (by simpa using hlen)
  obtain ⟨p0, p1, p2, p3, p4, p5, p6, p7, p8, p9⟩ := o
  obtain ⟨r0, r1, r2, r3⟩ := o2
  obtain ⟨s0, s1, s2, s3⟩ := o3
  have h0 := hg 0 f0 rfl
  have h1 := hg 1 f1 rfl
  have h2 := hg 2 f2 rfl
  have h3 := hg 3 f3 rfl
  have h4 := hg 4 f4 rfl
  simp [Value.cells, p0, p1, p2, p3, p4, p5, p6, p7, p8, p9] at h0 h1 h2 h3 h4
  obtain ⟨z0, z1, n2, _, _, m0, m1⟩ := trod_struct2 hm h0
  simp [r0, r1, r2, r3] at m0 m1
  obtain ⟨w0, w1, n3, _, _, q0, q1⟩ := trod_struct2 hq m0
  simp [s0, s1, s2, s3] at q0 q1
  obtain ⟨l, rfl, _, _⟩ := fld_int u0 q0
  obtain ⟨s, rfl, _, _⟩ := fld_int u1 q1
  obtain ⟨A1, x1, c1, rfl, l1, m1, r1, _⟩ := fld_ints u2 he hc m1
  obtain ⟨A2, x2, c2, rfl, l2, m2, r2, _⟩ := fld_ints u3 he hc h1
  obtain ⟨A3, x3, c3, rfl, l3, m3, r3, _⟩ := fld_ints u4 he hc h2
  obtain ⟨A4, x4, c4, rfl, l4, m4, r4, _⟩ := fld_ints u5 he hc h3
  obtain ⟨A5, x5, c5, rfl, l5, m5, r5, _⟩ := fld_ints u6 he hc h4
  exact ⟨l, s, A1, x1, c1, A2, x2, c2, A3, x3, c3, A4, x4, c4, A5, x5, c5, rfl, l1, m1, r1, l2, m2, r2, l3, m3, r3, l4, m4, r4, l5, m5, r5⟩
end
theorem szModulator_any (A : Option Addr) (c n : Nat) (l s k : Int) (w : World) (hn : n ≤ 9223372036854775807) (k1 : 0 ≤ k) (k2 : k ≤ 1048576) :
    Calls Tryz.prog 71 #[.agg #[.int .i64 l, .int .i64 s, .slice A n c], .int .i64 k] w fun e w' => (∃ v : Int, e = .returned (.int .i64 v) ∧ ((v = -1 ∧ k < n) ∨ (v = k - n ∧ 0 ≤ v))) ∧ Below w.heap.size w w' := by
  have hb : Below w.heap.size w (w.alloc (.cells #[.int .i64 l, .int .i64 s, .slice A n c] 58)) := (Below.refl _ _).alloc (Nat.le_refl _) _
  have Hb := Lib.hid hb
  clear hb
  go_enter Tryz.func71, Tryz.ntmps71
  go_wp2_with fail
  refine (szIntS_any A c n k _ hn k1 k2).mono ?_
  rintro e w1 ⟨⟨v, rfl, hv⟩, rfl⟩
  rcases hv with ⟨rfl, hv⟩ | ⟨hv, hv0⟩
  · go_wp2_with fail
    go_ret
    exact ⟨⟨-1, rfl, .inl ⟨rfl, by omega⟩⟩, Hb.out⟩
  · have Hv := Lib.hid hv
    clear hv
    go_wp2_with fail
    go_ret
    exact ⟨⟨v, rfl, .inr ⟨Hv.out, hv0⟩⟩, Hb.out⟩
set_option maxHeartbeats 1000000 in
theorem szBench_any (A1 A2 A3 A4 A5 : Option Addr) (c1 c2 c3 c4 c5 n1 n2 n3 n4 n5 : Nat) (l s k : Int) (w : World) (h1 : n1 ≤ 9223372036854775807) (h2 : n2 ≤ 9223372036854775807) (h3 : n3 ≤ 9223372036854775807) (h4 : n4 ≤ 9223372036854775807) (h5 : n5 ≤ 9223372036854775807) (k1 : 0 ≤ k) (k2 : k ≤ 1048576) :
    Calls Tryz.prog 30 #[.agg #[.int .i64 l, .int .i64 s, .slice A1 n1 c1, .slice A2 n2 c2, .slice A3 n3 c3, .slice A4 n4 c4, .slice A5 n5 c5], .int .i64 k] w fun e w' => (∃ v : Int, e = .returned (.int .i64 v) ∧ ((v = -1 ∧ k < ((n1 + n2 + n3 + n4 + n5 : Nat) : Int)) ∨ (v = k - ((n1 + n2 + n3 + n4 + n5 : Nat) : Int) ∧ 0 ≤ v))) ∧ Below w.heap.size w w' := by
  have Hb : Hid (Below w.heap.size w (w.alloc (.cells #[.int .i64 l, .int .i64 s, .slice A1 n1 c1, .slice A2 n2 c2, .slice A3 n3 c3, .slice A4 n4 c4, .slice A5 n5 c5] 60))) := (Below.refl _ _).alloc (Nat.le_refl _) _
  have B := Blk.new w 60 #[.int .i64 l, .int .i64 s, .slice A1 n1 c1, .slice A2 n2 c2, .slice A3 n3 c3, .slice A4 n4 c4, .slice A5 n5 c5]
  go_enter Tryz.func30, Tryz.ntmps30
  go_wp2_with fail
  refine (szModulator_any A1 c1 n1 l s k _ h1 k1 k2).mono ?_
  rintro e w1 ⟨⟨v1, rfl, hv⟩, h⟩
  replace Hb := Lib.hid (thenB Hb.out h)
  replace B := B.past h
  have q2 := B.cell 3; have q3 := B.cell 4; have q4 := B.cell 5; have q5 := B.cell 6
  simp at q2 q3 q4 q5
  clear B h
  rcases hv with ⟨rfl, hv⟩ | ⟨hv, hv1⟩
  · have Hn := Lib.hid hv
    clear hv
    go_wp2_with fail
    go_ret
    exact ⟨⟨-1, rfl, .inl ⟨rfl, by have := Hn.out; omega⟩⟩, Hb.out⟩
  · have Hv1 := Lib.hid hv
    have vb1 : v1 ≤ 1048576 := by have := Hv1.out; omega
    clear hv
    go_wp2_with fail
    refine (szIntS_any A2 c2 n2 v1 _ h2 hv1 vb1).mono ?_
    rintro e w2 ⟨⟨v2, rfl, hv⟩, rfl⟩
    rcases hv with ⟨rfl, hv⟩ | ⟨hv, hv2⟩
    · have Hn := Lib.hid hv
      clear hv
      go_wp2_with fail
      go_ret
      exact ⟨⟨-1, rfl, .inl ⟨rfl, by have := Hn.out; have := Hv1.out; omega⟩⟩, Hb.out⟩
    · have Hv2 := Lib.hid hv
      have vb2 : v2 ≤ 1048576 := by have := Hv2.out; omega
      clear hv
      go_wp2_with fail
      refine (szIntS_any A3 c3 n3 v2 _ h3 hv2 vb2).mono ?_
      rintro e w3 ⟨⟨v3, rfl, hv⟩, rfl⟩
      rcases hv with ⟨rfl, hv⟩ | ⟨hv, hv3⟩
      · have Hn := Lib.hid hv
        clear hv
        go_wp2_with fail
        go_ret
        exact ⟨⟨-1, rfl, .inl ⟨rfl, by have := Hn.out; have := Hv1.out; have := Hv2.out; omega⟩⟩, Hb.out⟩
      · have Hv3 := Lib.hid hv
        have vb3 : v3 ≤ 1048576 := by have := Hv3.out; omega
        clear hv
        go_wp2_with fail
        refine (szIntS_any A4 c4 n4 v3 _ h4 hv3 vb3).mono ?_
        rintro e w4 ⟨⟨v4, rfl, hv⟩, rfl⟩
        rcases hv with ⟨rfl, hv⟩ | ⟨hv, hv4⟩
        · have Hn := Lib.hid hv
          clear hv
          go_wp2_with fail
          go_ret
          exact ⟨⟨-1, rfl, .inl ⟨rfl, by have := Hn.out; have := Hv1.out; have := Hv2.out; have := Hv3.out; omega⟩⟩, Hb.out⟩
        · have Hv4 := Lib.hid hv
          have vb4 : v4 ≤ 1048576 := by have := Hv4.out; omega
          clear hv
          go_wp2_with fail
          refine (szIntS_any A5 c5 n5 v4 _ h5 hv4 vb4).mono ?_
          rintro e w5 ⟨⟨v5, rfl, hv⟩, rfl⟩
          rcases hv with ⟨rfl, hv⟩ | ⟨hv, hv5⟩
          · have Hn := Lib.hid hv
            clear hv
            go_wp2_with fail
            go_ret
            exact ⟨⟨-1, rfl, .inl ⟨rfl, by have := Hn.out; have := Hv1.out; have := Hv2.out; have := Hv3.out; have := Hv4.out; omega⟩⟩, Hb.out⟩
          · have Hv5 := Lib.hid hv
            have vb5 : v5 ≤ 1048576 := by have := Hv5.out; omega
            clear hv
            go_wp2_with fail
            go_ret
            exact ⟨⟨v5, rfl, .inr ⟨by have := Hv1.out; have := Hv2.out; have := Hv3.out; have := Hv4.out; have := Hv5.out; omega, hv5⟩⟩, Hb.out⟩
theorem toQuantiser_res {tmps : Array Value} {g : Nat} {w : World} {v0 v1 : Value} (hp : tmps.getD 2 undef = .pointer (some ⟨g, 0, none⟩)) (c0 : w.cell? ⟨g, 0, none⟩ = some v0) (c1 : w.cell? ⟨g, 1, none⟩ = some v1) :
    (results Tryz.f122 tmps).run Tryz.prog w = .ok (.agg #[v0, v1]) w := by
  have hp' := hp
  simp at hp'
  simp only [results, Tryz.results122]
  simp [go_sem, hp', c0, c1]
set_option maxRecDepth 100000 in
set_option maxHeartbeats 2000000 in
theorem toQuantiser_any (l s : Int) (w : World) :
    Calls Tryz.prog 122 #[.agg #[.int .i64 l, .int .i64 s]] w fun e w' => e = .returned (.agg #[.int .i64 l, .int .i64 s]) ∧ Below w.heap.size w w' := by
  obtain ⟨W, hW⟩ : ∃ W, W = ((w.alloc (.cells #[.int .i64 l, .int .i64 s] 56)).alloc (.cells #[.int .i64 0, .int .i64 0] 24)).alloc (.cells #[.int .i64 0, .int .i64 0] 24) := ⟨_, rfl⟩
  have Hb : Hid (Below w.heap.size w W) := by rw [hW]; exact (((Below.refl _ _).alloc (Nat.le_refl _) _).alloc (by simp) _).alloc (by simp; omega) _
  have BB : Blk W w.heap.size 56 #[.int .i64 l, .int .i64 s] := by rw [hW]; exact ((Blk.new w 56 #[.int .i64 l, .int .i64 s]).alloc _).alloc _
  have BR : Blk W (w.heap.size + 1) 24 #[.int .i64 0, .int .i64 0] := by rw [hW]; have := (Blk.new (w.alloc (.cells #[.int .i64 l, .int .i64 s] 56)) 24 #[.int .i64 0, .int .i64 0]).alloc (.cells #[.int .i64 0, .int .i64 0] 24); simpa using this
  have BO : Blk W (w.heap.size + 1 + 1) 24 #[.int .i64 0, .int .i64 0] := by rw [hW]; have := Blk.new ((w.alloc (.cells #[.int .i64 l, .int .i64 s] 56)).alloc (.cells #[.int .i64 0, .int .i64 0] 24)) 24 #[.int .i64 0, .int .i64 0]; simpa using this
  have z0 : w.heap.size + 1 + 1 < W.heap.size := BO.lt
  go_enter Tryz.func122, Tryz.ntmps122
  go_upto_region 2 with fail
  rw [← hW]
  clear hW
  have b0 := Lib.hid BB
  have e0_0 := BB.cell 0; have e0_1 := BB.cell 1; simp at e0_0 e0_1
  have p0 := BO.cell 0; have f0 := BO.frozen 0; simp at p0
  go_upto_region 3 with fail
  clear p0 f0 e0_0 e0_1
  have T := turn_set (turn_refl W (w.heap.size + 1 + 1)) (p := ⟨w.heap.size + 1 + 1, 0, none⟩) rfl (.int .i64 l)
  replace BB := (BB.far (p := ⟨w.heap.size + 1 + 1, 0, none⟩) (show w.heap.size ≠ w.heap.size + 1 + 1 by omega) (.int .i64 l))
  replace BR := (BR.far (p := ⟨w.heap.size + 1 + 1, 0, none⟩) (show w.heap.size + 1 ≠ w.heap.size + 1 + 1 by omega) (.int .i64 l))
  replace BO : Blk (W.setCell ⟨w.heap.size + 1 + 1, 0, none⟩ (.int .i64 l)) (w.heap.size + 1 + 1) 24 #[.int .i64 l, .int .i64 0] := (BO.set_ 0 (.int .i64 l))
  replace Hb := Lib.hid ((Hb.out.setCell (p := ⟨w.heap.size + 1 + 1, 0, none⟩) (show w.heap.size ≤ w.heap.size + 1 + 1 by omega) (.int .i64 l)))
  have zx0 : W.heap.size ≤ (W.setCell ⟨w.heap.size + 1 + 1, 0, none⟩ (.int .i64 l)).heap.size := T.size
  obtain ⟨s1, hs⟩ : ∃ V, V = (W.setCell ⟨w.heap.size + 1 + 1, 0, none⟩ (.int .i64 l)) := ⟨_, rfl⟩
  rw [← hs] at BB BR BO Hb zx0  ⊢
  clear hs T b0
  have b1 := Lib.hid BB
  have e1_0 := BB.cell 0; have e1_1 := BB.cell 1; simp at e1_0 e1_1
  have p1 := BO.cell 1; have f1 := BO.frozen 1; simp at p1
  go_upto_region 4 with fail
  clear p1 f1 e1_0 e1_1
  have T := turn_set (turn_refl s1 (w.heap.size + 1 + 1)) (p := ⟨w.heap.size + 1 + 1, 1, none⟩) rfl (.int .i64 s)
  replace BB := (BB.far (p := ⟨w.heap.size + 1 + 1, 1, none⟩) (show w.heap.size ≠ w.heap.size + 1 + 1 by omega) (.int .i64 s))
  replace BR := (BR.far (p := ⟨w.heap.size + 1 + 1, 1, none⟩) (show w.heap.size + 1 ≠ w.heap.size + 1 + 1 by omega) (.int .i64 s))
  replace BO : Blk (s1.setCell ⟨w.heap.size + 1 + 1, 1, none⟩ (.int .i64 s)) (w.heap.size + 1 + 1) 24 #[.int .i64 l, .int .i64 s] := (BO.set_ 1 (.int .i64 s))
  replace Hb := Lib.hid ((Hb.out.setCell (p := ⟨w.heap.size + 1 + 1, 1, none⟩) (show w.heap.size ≤ w.heap.size + 1 + 1 by omega) (.int .i64 s)))
  have zx1 : s1.heap.size ≤ (s1.setCell ⟨w.heap.size + 1 + 1, 1, none⟩ (.int .i64 s)).heap.size := T.size
  obtain ⟨s2, hs⟩ : ∃ V, V = (s1.setCell ⟨w.heap.size + 1 + 1, 1, none⟩ (.int .i64 s)) := ⟨_, rfl⟩
  rw [← hs] at BB BR BO Hb zx1  ⊢
  clear hs T b1
  have g0 := BO.cell 0; have p0 := BR.cell 0; have f0 := BR.frozen 0; have g1 := BO.cell 1; have p1 := BR.cell 1; have f1 := BR.frozen 1; simp at g0 p0 g1 p1
  have T := turn_set (turn_set (turn_refl s2 (w.heap.size + 1)) (p := ⟨w.heap.size + 1, 0, none⟩) rfl (.int .i64 l)) (p := ⟨w.heap.size + 1, 1, none⟩) rfl (.int .i64 s)
  have RF := ((BR.set_ 0 (.int .i64 l)).set_ 1 (.int .i64 s))
  have d0 := RF.cell 0; have d1 := RF.cell 1; simp at d0 d1
  have D0 := Lib.hid d0
  have D1 := Lib.hid d1
  have HB := Lib.hid (((Hb.out.setCell (p := ⟨w.heap.size + 1, 0, none⟩) (show w.heap.size ≤ w.heap.size + 1 by omega) (.int .i64 l)).setCell (p := ⟨w.heap.size + 1, 1, none⟩) (show w.heap.size ≤ w.heap.size + 1 by omega) (.int .i64 s)))
  clear RF T BB BO BR d0 d1 
  go_wp2
  refine bodyPost_ret (toQuantiser_res rfl D0.out D1.out) rfl ?_
  exact ⟨rfl, HB.out⟩
def RetMd (w : World) (l s : Int) (cs : List Int) (e : Ending) (w' : World) : Prop := ∃ A c, e = .returned (.agg #[.int .i64 l, .int .i64 s, .slice A cs.length c]) ∧ Own w' w.heap.size A c cs ∧ Below w.heap.size w w'
theorem toModulator_res {tmps : Array Value} {g : Nat} {w : World} {v0 v1 v2 : Value} (hp : tmps.getD 2 undef = .pointer (some ⟨g, 0, none⟩)) (c0 : w.cell? ⟨g, 0, none⟩ = some v0) (c1 : w.cell? ⟨g, 1, none⟩ = some v1) (c2 : w.cell? ⟨g, 2, none⟩ = some v2) :
    (results Tryz.f77 tmps).run Tryz.prog w = .ok (.agg #[v0, v1, v2]) w := by
  have hp' := hp
  simp at hp'
  simp only [results, Tryz.results77]
  simp [go_sem, hp', c0, c1, c2]
set_option maxRecDepth 100000 in
set_option maxHeartbeats 2000000 in
theorem toModulator_any (l s : Int) (B : Option Addr) (d : Nat) (b : List Int) (w : World) (hr : Rd w w.heap.size B b) (hn : b.length ≤ 1048576) :
    Calls Tryz.prog 77 #[.agg #[.int .i64 l, .int .i64 s, .slice B b.length d]] w (RetMd w l s b) := by
  obtain ⟨W, hW⟩ : ∃ W, W = ((w.alloc (.cells #[.int .i64 l, .int .i64 s, .slice B b.length d] 58)).alloc (.cells #[.int .i64 0, .int .i64 0, .slice none 0 0] 27)).alloc (.cells #[.int .i64 0, .int .i64 0, .slice none 0 0] 27) := ⟨_, rfl⟩
  have Hb : Hid (Below w.heap.size w W) := by rw [hW]; exact (((Below.refl _ _).alloc (Nat.le_refl _) _).alloc (by simp) _).alloc (by simp; omega) _
  have BB : Blk W w.heap.size 58 #[.int .i64 l, .int .i64 s, .slice B b.length d] := by rw [hW]; exact ((Blk.new w 58 #[.int .i64 l, .int .i64 s, .slice B b.length d]).alloc _).alloc _
  have BR : Blk W (w.heap.size + 1) 27 #[.int .i64 0, .int .i64 0, .slice none 0 0] := by rw [hW]; have := (Blk.new (w.alloc (.cells #[.int .i64 l, .int .i64 s, .slice B b.length d] 58)) 27 #[.int .i64 0, .int .i64 0, .slice none 0 0]).alloc (.cells #[.int .i64 0, .int .i64 0, .slice none 0 0] 27); simpa using this
  have BO : Blk W (w.heap.size + 1 + 1) 27 #[.int .i64 0, .int .i64 0, .slice none 0 0] := by rw [hW]; have := Blk.new ((w.alloc (.cells #[.int .i64 l, .int .i64 s, .slice B b.length d] 58)).alloc (.cells #[.int .i64 0, .int .i64 0, .slice none 0 0] 27)) 27 #[.int .i64 0, .int .i64 0, .slice none 0 0]; simpa using this
  have z0 : w.heap.size + 1 + 1 < W.heap.size := BO.lt
  have Hr := Lib.hid hr
  have Hn := Lib.hid hn
  clear hr hn
  go_enter Tryz.func77, Tryz.ntmps77
  go_upto_region 2 with fail
  rw [← hW]
  clear hW
  have b0 := Lib.hid BB
  have e0_0 := BB.cell 0; have e0_1 := BB.cell 1; have e0_2 := BB.cell 2; simp at e0_0 e0_1 e0_2
  go_wp2_with fail
  refine (toQuantiser_any l s _).mono ?_; rintro e w1 ⟨rfl, h⟩
  replace BB := BB.past h
  replace BR := BR.past h
  replace BO := BO.past h
  replace Hb := Lib.hid (thenB Hb.out h)
  have y0 : W.heap.size ≤ w1.heap.size := h.size
  clear h e0_0 e0_1 e0_2
  have p0 := BO.cell 0; have f0 := BO.frozen 0; have p1 := BO.cell 1; have f1 := BO.frozen 1; simp at p0 p1
  go_upto_region 3 with fail
  clear p0 f0 p1 f1
  have T := turn_set (turn_set (turn_refl w1 (w.heap.size + 1 + 1)) (p := ⟨w.heap.size + 1 + 1, 0, none⟩) rfl (.int .i64 l)) (p := ⟨w.heap.size + 1 + 1, 1, none⟩) rfl (.int .i64 s)
  replace BB := ((BB.far (p := ⟨w.heap.size + 1 + 1, 0, none⟩) (show w.heap.size ≠ w.heap.size + 1 + 1 by omega) (.int .i64 l)).far (p := ⟨w.heap.size + 1 + 1, 1, none⟩) (show w.heap.size ≠ w.heap.size + 1 + 1 by omega) (.int .i64 s))
  replace BR := ((BR.far (p := ⟨w.heap.size + 1 + 1, 0, none⟩) (show w.heap.size + 1 ≠ w.heap.size + 1 + 1 by omega) (.int .i64 l)).far (p := ⟨w.heap.size + 1 + 1, 1, none⟩) (show w.heap.size + 1 ≠ w.heap.size + 1 + 1 by omega) (.int .i64 s))
  replace BO : Blk ((w1.setCell ⟨w.heap.size + 1 + 1, 0, none⟩ (.int .i64 l)).setCell ⟨w.heap.size + 1 + 1, 1, none⟩ (.int .i64 s)) (w.heap.size + 1 + 1) 27 #[.int .i64 l, .int .i64 s, .slice none 0 0] := ((BO.set_ 0 (.int .i64 l)).set_ 1 (.int .i64 s))
  replace Hb := Lib.hid (((Hb.out.setCell (p := ⟨w.heap.size + 1 + 1, 0, none⟩) (show w.heap.size ≤ w.heap.size + 1 + 1 by omega) (.int .i64 l)).setCell (p := ⟨w.heap.size + 1 + 1, 1, none⟩) (show w.heap.size ≤ w.heap.size + 1 + 1 by omega) (.int .i64 s)))
  have zx0 : w1.heap.size ≤ ((w1.setCell ⟨w.heap.size + 1 + 1, 0, none⟩ (.int .i64 l)).setCell ⟨w.heap.size + 1 + 1, 1, none⟩ (.int .i64 s)).heap.size := T.size
  obtain ⟨s1, hs⟩ : ∃ V, V = ((w1.setCell ⟨w.heap.size + 1 + 1, 0, none⟩ (.int .i64 l)).setCell ⟨w.heap.size + 1 + 1, 1, none⟩ (.int .i64 s)) := ⟨_, rfl⟩
  rw [← hs] at BB BR BO Hb zx0  ⊢
  clear hs T b0
  have b1 := Lib.hid BB
  have e1_0 := BB.cell 0; have e1_1 := BB.cell 1; have e1_2 := BB.cell 2; simp at e1_0 e1_1 e1_2
  go_wp2_with fail
  refine (toIntS_any B d b _ (Hr.out.past Hb.out) Hn.out).mono ?_; rintro e w2 ⟨A1, c1, rfl, O1, h⟩
  replace BB := BB.past h
  replace BR := BR.past h
  replace BO := BO.past h
  replace Hb := Lib.hid (thenB Hb.out h)
  have y1 : s1.heap.size ≤ w2.heap.size := h.size
  have N1 : ∀ a, A1 = some a → w.heap.size + 1 + 1 < a.block := fun a e => Nat.lt_of_lt_of_le (show w.heap.size + 1 + 1 < s1.heap.size by omega) (own_lo O1 a e)
  have U1 := own_hi O1
  have L1 := own_lo O1
  replace O1 := own_mono O1 (show w.heap.size ≤ s1.heap.size by omega)
  clear h e1_0 e1_1 e1_2
  have p2 := BO.cell 2; have f2 := BO.frozen 2; simp at p2
  go_upto_region 4 with fail
  clear p2 f2
  have T := turn_set (turn_refl w2 (w.heap.size + 1 + 1)) (p := ⟨w.heap.size + 1 + 1, 2, none⟩) rfl (.slice A1 b.length c1)
  replace BB := (BB.far (p := ⟨w.heap.size + 1 + 1, 2, none⟩) (show w.heap.size ≠ w.heap.size + 1 + 1 by omega) (.slice A1 b.length c1))
  replace BR := (BR.far (p := ⟨w.heap.size + 1 + 1, 2, none⟩) (show w.heap.size + 1 ≠ w.heap.size + 1 + 1 by omega) (.slice A1 b.length c1))
  replace BO : Blk (w2.setCell ⟨w.heap.size + 1 + 1, 2, none⟩ (.slice A1 b.length c1)) (w.heap.size + 1 + 1) 27 #[.int .i64 l, .int .i64 s, .slice A1 b.length c1] := (BO.set_ 2 (.slice A1 b.length c1))
  replace O1 := own_grown O1 T (fun a e e' => by have h1 := N1 a e; have h2 := Option.some.inj e'; omega)
  replace Hb := Lib.hid ((Hb.out.setCell (p := ⟨w.heap.size + 1 + 1, 2, none⟩) (show w.heap.size ≤ w.heap.size + 1 + 1 by omega) (.slice A1 b.length c1)))
  have zx1 : w2.heap.size ≤ (w2.setCell ⟨w.heap.size + 1 + 1, 2, none⟩ (.slice A1 b.length c1)).heap.size := T.size
  obtain ⟨s2, hs⟩ : ∃ V, V = (w2.setCell ⟨w.heap.size + 1 + 1, 2, none⟩ (.slice A1 b.length c1)) := ⟨_, rfl⟩
  rw [← hs] at BB BR BO Hb zx1 O1 ⊢
  clear hs T b1
  have g0 := BO.cell 0; have p0 := BR.cell 0; have f0 := BR.frozen 0; have g1 := BO.cell 1; have p1 := BR.cell 1; have f1 := BR.frozen 1; have g2 := BO.cell 2; have p2 := BR.cell 2; have f2 := BR.frozen 2; simp at g0 p0 g1 p1 g2 p2
  have T := turn_set (turn_set (turn_set (turn_refl s2 (w.heap.size + 1)) (p := ⟨w.heap.size + 1, 0, none⟩) rfl (.int .i64 l)) (p := ⟨w.heap.size + 1, 1, none⟩) rfl (.int .i64 s)) (p := ⟨w.heap.size + 1, 2, none⟩) rfl (.slice A1 b.length c1)
  have RF := (((BR.set_ 0 (.int .i64 l)).set_ 1 (.int .i64 s)).set_ 2 (.slice A1 b.length c1))
  have d0 := RF.cell 0; have d1 := RF.cell 1; have d2 := RF.cell 2; simp at d0 d1 d2
  have D0 := Lib.hid d0
  have D1 := Lib.hid d1
  have D2 := Lib.hid d2
  have Q1 := Lib.hid (own_grown O1 T (fun a e e' => by have h1 := N1 a e; have h2 := Option.some.inj e'; omega))
  have HB := Lib.hid ((((Hb.out.setCell (p := ⟨w.heap.size + 1, 0, none⟩) (show w.heap.size ≤ w.heap.size + 1 by omega) (.int .i64 l)).setCell (p := ⟨w.heap.size + 1, 1, none⟩) (show w.heap.size ≤ w.heap.size + 1 by omega) (.int .i64 s)).setCell (p := ⟨w.heap.size + 1, 2, none⟩) (show w.heap.size ≤ w.heap.size + 1 by omega) (.slice A1 b.length c1)))
  clear RF T BB BO BR d0 d1 d2 O1
  go_wp2
  refine bodyPost_ret (toModulator_res rfl D0.out D1.out D2.out) rfl ?_
  exact ⟨A1, c1, rfl, Q1.out, HB.out⟩
def RetBe5 (w : World) (l s : Int) (x1 x2 x3 x4 x5 : List Int) (e : Ending) (w' : World) : Prop :=
  ∃ A1 c1 A2 c2 A3 c3 A4 c4 A5 c5, e = .returned (.agg #[.int .i64 l, .int .i64 s, .slice A1 x1.length c1, .slice A2 x2.length c2, .slice A3 x3.length c3, .slice A4 x4.length c4, .slice A5 x5.length c5]) ∧ Own w' w.heap.size A1 c1 x1 ∧ Own w' w.heap.size A2 c2 x2 ∧ Own w' w.heap.size A3 c3 x3 ∧ Own w' w.heap.size A4 c4 x4 ∧ Own w' w.heap.size A5 c5 x5 ∧ Apart A1 A2 ∧ Apart A1 A3 ∧ Apart A1 A4 ∧ Apart A1 A5 ∧ Apart A2 A3 ∧ Apart A2 A4 ∧ Apart A2 A5 ∧ Apart A3 A4 ∧ Apart A3 A5 ∧ Apart A4 A5 ∧ Below w.heap.size w w'
theorem toBench_res {tmps : Array Value} {g : Nat} {w : World} {v0 v1 v2 v3 v4 v5 v6 : Value} (hp : tmps.getD 2 undef = .pointer (some ⟨g, 0, none⟩)) (c0 : w.cell? ⟨g, 0, none⟩ = some v0) (c1 : w.cell? ⟨g, 1, none⟩ = some v1) (c2 : w.cell? ⟨g, 2, none⟩ = some v2) (c3 : w.cell? ⟨g, 3, none⟩ = some v3) (c4 : w.cell? ⟨g, 4, none⟩ = some v4) (c5 : w.cell? ⟨g, 5, none⟩ = some v5) (c6 : w.cell? ⟨g, 6, none⟩ = some v6) :
    (results Tryz.f32 tmps).run Tryz.prog w = .ok (.agg #[v0, v1, v2, v3, v4, v5, v6]) w := by
  have hp' := hp
  simp at hp'
  simp only [results, Tryz.results32]
  simp [go_sem, hp', c0, c1, c2, c3, c4, c5, c6]
set_option maxRecDepth 100000 in
set_option maxHeartbeats 2000000 in
theorem toBench_any (l s : Int) (B1 B2 B3 B4 B5 : Option Addr) (d1 d2 d3 d4 d5 : Nat) (x1 x2 x3 x4 x5 : List Int) (w : World) (hr1 : Rd w w.heap.size B1 x1) (hr2 : Rd w w.heap.size B2 x2) (hr3 : Rd w w.heap.size B3 x3) (hr4 : Rd w w.heap.size B4 x4) (hr5 : Rd w w.heap.size B5 x5) (hn1 : x1.length ≤ 1048576) (hn2 : x2.length ≤ 1048576) (hn3 : x3.length ≤ 1048576) (hn4 : x4.length ≤ 1048576) (hn5 : x5.length ≤ 1048576) :
    Calls Tryz.prog 32 #[.agg #[.int .i64 l, .int .i64 s, .slice B1 x1.length d1, .slice B2 x2.length d2, .slice B3 x3.length d3, .slice B4 x4.length d4, .slice B5 x5.length d5]] w (RetBe5 w l s x1 x2 x3 x4 x5) := by
  obtain ⟨W, hW⟩ : ∃ W, W = ((w.alloc (.cells #[.int .i64 l, .int .i64 s, .slice B1 x1.length d1, .slice B2 x2.length d2, .slice B3 x3.length d3, .slice B4 x4.length d4, .slice B5 x5.length d5] 60)).alloc (.cells #[.int .i64 0, .int .i64 0, .slice none 0 0, .slice none 0 0, .slice none 0 0, .slice none 0 0, .slice none 0 0] 33)).alloc (.cells #[.int .i64 0, .int .i64 0, .slice none 0 0, .slice none 0 0, .slice none 0 0, .slice none 0 0, .slice none 0 0] 33) := ⟨_, rfl⟩
  have Hb : Hid (Below w.heap.size w W) := by rw [hW]; exact (((Below.refl _ _).alloc (Nat.le_refl _) _).alloc (by simp) _).alloc (by simp; omega) _
  have BB : Blk W w.heap.size 60 #[.int .i64 l, .int .i64 s, .slice B1 x1.length d1, .slice B2 x2.length d2, .slice B3 x3.length d3, .slice B4 x4.length d4, .slice B5 x5.length d5] := by rw [hW]; exact ((Blk.new w 60 #[.int .i64 l, .int .i64 s, .slice B1 x1.length d1, .slice B2 x2.length d2, .slice B3 x3.length d3, .slice B4 x4.length d4, .slice B5 x5.length d5]).alloc _).alloc _
  have BR : Blk W (w.heap.size + 1) 33 #[.int .i64 0, .int .i64 0, .slice none 0 0, .slice none 0 0, .slice none 0 0, .slice none 0 0, .slice none 0 0] := by rw [hW]; have := (Blk.new (w.alloc (.cells #[.int .i64 l, .int .i64 s, .slice B1 x1.length d1, .slice B2 x2.length d2, .slice B3 x3.length d3, .slice B4 x4.length d4, .slice B5 x5.length d5] 60)) 33 #[.int .i64 0, .int .i64 0, .slice none 0 0, .slice none 0 0, .slice none 0 0, .slice none 0 0, .slice none 0 0]).alloc (.cells #[.int .i64 0, .int .i64 0, .slice none 0 0, .slice none 0 0, .slice none 0 0, .slice none 0 0, .slice none 0 0] 33); simpa using this
  have BO : Blk W (w.heap.size + 1 + 1) 33 #[.int .i64 0, .int .i64 0, .slice none 0 0, .slice none 0 0, .slice none 0 0, .slice none 0 0, .slice none 0 0] := by rw [hW]; have := Blk.new ((w.alloc (.cells #[.int .i64 l, .int .i64 s, .slice B1 x1.length d1, .slice B2 x2.length d2, .slice B3 x3.length d3, .slice B4 x4.length d4, .slice B5 x5.length d5] 60)).alloc (.cells #[.int .i64 0, .int .i64 0, .slice none 0 0, .slice none 0 0, .slice none 0 0, .slice none 0 0, .slice none 0 0] 33)) 33 #[.int .i64 0, .int .i64 0, .slice none 0 0, .slice none 0 0, .slice none 0 0, .slice none 0 0, .slice none 0 0]; simpa using this
  have z0 : w.heap.size + 1 + 1 < W.heap.size := BO.lt
  have Hr1 := Lib.hid hr1
  have Hr2 := Lib.hid hr2
  have Hr3 := Lib.hid hr3
  have Hr4 := Lib.hid hr4
  have Hr5 := Lib.hid hr5
  have Hn1 := Lib.hid hn1
  have Hn2 := Lib.hid hn2
  have Hn3 := Lib.hid hn3
  have Hn4 := Lib.hid hn4
  have Hn5 := Lib.hid hn5
  clear hr1 hr2 hr3 hr4 hr5 hn1 hn2 hn3 hn4 hn5
  go_enter Tryz.func32, Tryz.ntmps32
  go_upto_region 2 with fail
  rw [← hW]
  clear hW
  have b0 := Lib.hid BB
  have e0_0 := BB.cell 0; have e0_1 := BB.cell 1; have e0_2 := BB.cell 2; have e0_3 := BB.cell 3; have e0_4 := BB.cell 4; have e0_5 := BB.cell 5; have e0_6 := BB.cell 6; simp at e0_0 e0_1 e0_2 e0_3 e0_4 e0_5 e0_6
  go_wp2_with fail
  refine (toModulator_any l s B1 d1 x1 _ (Hr1.out.past Hb.out) Hn1.out).mono ?_; rintro e w1 ⟨A1, c1, rfl, O1, h⟩
  replace BB := BB.past h
  replace BR := BR.past h
  replace BO := BO.past h
  replace Hb := Lib.hid (thenB Hb.out h)
  have y0 : W.heap.size ≤ w1.heap.size := h.size
  have N1 : ∀ a, A1 = some a → w.heap.size + 1 + 1 < a.block := fun a e => Nat.lt_of_lt_of_le (show w.heap.size + 1 + 1 < W.heap.size by omega) (own_lo O1 a e)
  have U1 := own_hi O1
  have L1 := own_lo O1
  replace O1 := own_mono O1 (show w.heap.size ≤ W.heap.size by omega)
  clear h e0_0 e0_1 e0_2 e0_3 e0_4 e0_5 e0_6
  have p0 := BO.cell 0; have f0 := BO.frozen 0; have p1 := BO.cell 1; have f1 := BO.frozen 1; have p2 := BO.cell 2; have f2 := BO.frozen 2; simp at p0 p1 p2
  go_upto_region 3 with fail
  clear p0 f0 p1 f1 p2 f2
  have T := turn_set (turn_set (turn_set (turn_refl w1 (w.heap.size + 1 + 1)) (p := ⟨w.heap.size + 1 + 1, 0, none⟩) rfl (.int .i64 l)) (p := ⟨w.heap.size + 1 + 1, 1, none⟩) rfl (.int .i64 s)) (p := ⟨w.heap.size + 1 + 1, 2, none⟩) rfl (.slice A1 x1.length c1)
  replace BB := (((BB.far (p := ⟨w.heap.size + 1 + 1, 0, none⟩) (show w.heap.size ≠ w.heap.size + 1 + 1 by omega) (.int .i64 l)).far (p := ⟨w.heap.size + 1 + 1, 1, none⟩) (show w.heap.size ≠ w.heap.size + 1 + 1 by omega) (.int .i64 s)).far (p := ⟨w.heap.size + 1 + 1, 2, none⟩) (show w.heap.size ≠ w.heap.size + 1 + 1 by omega) (.slice A1 x1.length c1))
  replace BR := (((BR.far (p := ⟨w.heap.size + 1 + 1, 0, none⟩) (show w.heap.size + 1 ≠ w.heap.size + 1 + 1 by omega) (.int .i64 l)).far (p := ⟨w.heap.size + 1 + 1, 1, none⟩) (show w.heap.size + 1 ≠ w.heap.size + 1 + 1 by omega) (.int .i64 s)).far (p := ⟨w.heap.size + 1 + 1, 2, none⟩) (show w.heap.size + 1 ≠ w.heap.size + 1 + 1 by omega) (.slice A1 x1.length c1))
  replace BO : Blk (((w1.setCell ⟨w.heap.size + 1 + 1, 0, none⟩ (.int .i64 l)).setCell ⟨w.heap.size + 1 + 1, 1, none⟩ (.int .i64 s)).setCell ⟨w.heap.size + 1 + 1, 2, none⟩ (.slice A1 x1.length c1)) (w.heap.size + 1 + 1) 33 #[.int .i64 l, .int .i64 s, .slice A1 x1.length c1, .slice none 0 0, .slice none 0 0, .slice none 0 0, .slice none 0 0] := (((BO.set_ 0 (.int .i64 l)).set_ 1 (.int .i64 s)).set_ 2 (.slice A1 x1.length c1))
  replace O1 := own_grown O1 T (fun a e e' => by have h1 := N1 a e; have h2 := Option.some.inj e'; omega)
  replace Hb := Lib.hid ((((Hb.out.setCell (p := ⟨w.heap.size + 1 + 1, 0, none⟩) (show w.heap.size ≤ w.heap.size + 1 + 1 by omega) (.int .i64 l)).setCell (p := ⟨w.heap.size + 1 + 1, 1, none⟩) (show w.heap.size ≤ w.heap.size + 1 + 1 by omega) (.int .i64 s)).setCell (p := ⟨w.heap.size + 1 + 1, 2, none⟩) (show w.heap.size ≤ w.heap.size + 1 + 1 by omega) (.slice A1 x1.length c1)))
  have zx0 : w1.heap.size ≤ (((w1.setCell ⟨w.heap.size + 1 + 1, 0, none⟩ (.int .i64 l)).setCell ⟨w.heap.size + 1 + 1, 1, none⟩ (.int .i64 s)).setCell ⟨w.heap.size + 1 + 1, 2, none⟩ (.slice A1 x1.length c1)).heap.size := T.size
  obtain ⟨s1, hs⟩ : ∃ V, V = (((w1.setCell ⟨w.heap.size + 1 + 1, 0, none⟩ (.int .i64 l)).setCell ⟨w.heap.size + 1 + 1, 1, none⟩ (.int .i64 s)).setCell ⟨w.heap.size + 1 + 1, 2, none⟩ (.slice A1 x1.length c1)) := ⟨_, rfl⟩
  rw [← hs] at BB BR BO Hb zx0 O1 ⊢
  clear hs T b0
  have b1 := Lib.hid BB
  have e1_0 := BB.cell 0; have e1_1 := BB.cell 1; have e1_2 := BB.cell 2; have e1_3 := BB.cell 3; have e1_4 := BB.cell 4; have e1_5 := BB.cell 5; have e1_6 := BB.cell 6; simp at e1_0 e1_1 e1_2 e1_3 e1_4 e1_5 e1_6
  go_wp2_with fail
  refine (toIntS_any B2 d2 x2 _ (Hr2.out.past Hb.out) Hn2.out).mono ?_; rintro e w2 ⟨A2, c2, rfl, O2, h⟩
  replace BB := BB.past h
  replace BR := BR.past h
  replace BO := BO.past h
  replace Hb := Lib.hid (thenB Hb.out h)
  have y1 : s1.heap.size ≤ w2.heap.size := h.size
  replace O1 := own_past O1 h
  have N2 : ∀ a, A2 = some a → w.heap.size + 1 + 1 < a.block := fun a e => Nat.lt_of_lt_of_le (show w.heap.size + 1 + 1 < s1.heap.size by omega) (own_lo O2 a e)
  have U2 := own_hi O2
  have L2 := own_lo O2
  replace O2 := own_mono O2 (show w.heap.size ≤ s1.heap.size by omega)
  clear h e1_0 e1_1 e1_2 e1_3 e1_4 e1_5 e1_6
  have p3 := BO.cell 3; have f3 := BO.frozen 3; simp at p3
  go_upto_region 4 with fail
  clear p3 f3
  have T := turn_set (turn_refl w2 (w.heap.size + 1 + 1)) (p := ⟨w.heap.size + 1 + 1, 3, none⟩) rfl (.slice A2 x2.length c2)
  replace BB := (BB.far (p := ⟨w.heap.size + 1 + 1, 3, none⟩) (show w.heap.size ≠ w.heap.size + 1 + 1 by omega) (.slice A2 x2.length c2))
  replace BR := (BR.far (p := ⟨w.heap.size + 1 + 1, 3, none⟩) (show w.heap.size + 1 ≠ w.heap.size + 1 + 1 by omega) (.slice A2 x2.length c2))
  replace BO : Blk (w2.setCell ⟨w.heap.size + 1 + 1, 3, none⟩ (.slice A2 x2.length c2)) (w.heap.size + 1 + 1) 33 #[.int .i64 l, .int .i64 s, .slice A1 x1.length c1, .slice A2 x2.length c2, .slice none 0 0, .slice none 0 0, .slice none 0 0] := (BO.set_ 3 (.slice A2 x2.length c2))
  replace O1 := own_grown O1 T (fun a e e' => by have h1 := N1 a e; have h2 := Option.some.inj e'; omega)
  replace O2 := own_grown O2 T (fun a e e' => by have h1 := N2 a e; have h2 := Option.some.inj e'; omega)
  replace Hb := Lib.hid ((Hb.out.setCell (p := ⟨w.heap.size + 1 + 1, 3, none⟩) (show w.heap.size ≤ w.heap.size + 1 + 1 by omega) (.slice A2 x2.length c2)))
  have zx1 : w2.heap.size ≤ (w2.setCell ⟨w.heap.size + 1 + 1, 3, none⟩ (.slice A2 x2.length c2)).heap.size := T.size
  obtain ⟨s2, hs⟩ : ∃ V, V = (w2.setCell ⟨w.heap.size + 1 + 1, 3, none⟩ (.slice A2 x2.length c2)) := ⟨_, rfl⟩
  rw [← hs] at BB BR BO Hb zx1 O1 O2 ⊢
  clear hs T b1
  have b2 := Lib.hid BB
  have e2_0 := BB.cell 0; have e2_1 := BB.cell 1; have e2_2 := BB.cell 2; have e2_3 := BB.cell 3; have e2_4 := BB.cell 4; have e2_5 := BB.cell 5; have e2_6 := BB.cell 6; simp at e2_0 e2_1 e2_2 e2_3 e2_4 e2_5 e2_6
  go_wp2_with fail
  refine (toIntS_any B3 d3 x3 _ (Hr3.out.past Hb.out) Hn3.out).mono ?_; rintro e w3 ⟨A3, c3, rfl, O3, h⟩
  replace BB := BB.past h
  replace BR := BR.past h
  replace BO := BO.past h
  replace Hb := Lib.hid (thenB Hb.out h)
  have y2 : s2.heap.size ≤ w3.heap.size := h.size
  replace O1 := own_past O1 h
  replace O2 := own_past O2 h
  have N3 : ∀ a, A3 = some a → w.heap.size + 1 + 1 < a.block := fun a e => Nat.lt_of_lt_of_le (show w.heap.size + 1 + 1 < s2.heap.size by omega) (own_lo O3 a e)
  have U3 := own_hi O3
  have L3 := own_lo O3
  replace O3 := own_mono O3 (show w.heap.size ≤ s2.heap.size by omega)
  clear h e2_0 e2_1 e2_2 e2_3 e2_4 e2_5 e2_6
  have p4 := BO.cell 4; have f4 := BO.frozen 4; simp at p4
  go_upto_region 5 with fail
  clear p4 f4
  have T := turn_set (turn_refl w3 (w.heap.size + 1 + 1)) (p := ⟨w.heap.size + 1 + 1, 4, none⟩) rfl (.slice A3 x3.length c3)
  replace BB := (BB.far (p := ⟨w.heap.size + 1 + 1, 4, none⟩) (show w.heap.size ≠ w.heap.size + 1 + 1 by omega) (.slice A3 x3.length c3))
  replace BR := (BR.far (p := ⟨w.heap.size + 1 + 1, 4, none⟩) (show w.heap.size + 1 ≠ w.heap.size + 1 + 1 by omega) (.slice A3 x3.length c3))
  replace BO : Blk (w3.setCell ⟨w.heap.size + 1 + 1, 4, none⟩ (.slice A3 x3.length c3)) (w.heap.size + 1 + 1) 33 #[.int .i64 l, .int .i64 s, .slice A1 x1.length c1, .slice A2 x2.length c2, .slice A3 x3.length c3, .slice none 0 0, .slice none 0 0] := (BO.set_ 4 (.slice A3 x3.length c3))
  replace O1 := own_grown O1 T (fun a e e' => by have h1 := N1 a e; have h2 := Option.some.inj e'; omega)
  replace O2 := own_grown O2 T (fun a e e' => by have h1 := N2 a e; have h2 := Option.some.inj e'; omega)
  replace O3 := own_grown O3 T (fun a e e' => by have h1 := N3 a e; have h2 := Option.some.inj e'; omega)
  replace Hb := Lib.hid ((Hb.out.setCell (p := ⟨w.heap.size + 1 + 1, 4, none⟩) (show w.heap.size ≤ w.heap.size + 1 + 1 by omega) (.slice A3 x3.length c3)))
  have zx2 : w3.heap.size ≤ (w3.setCell ⟨w.heap.size + 1 + 1, 4, none⟩ (.slice A3 x3.length c3)).heap.size := T.size
  obtain ⟨s3, hs⟩ : ∃ V, V = (w3.setCell ⟨w.heap.size + 1 + 1, 4, none⟩ (.slice A3 x3.length c3)) := ⟨_, rfl⟩
  rw [← hs] at BB BR BO Hb zx2 O1 O2 O3 ⊢
  clear hs T b2
  have b3 := Lib.hid BB
  have e3_0 := BB.cell 0; have e3_1 := BB.cell 1; have e3_2 := BB.cell 2; have e3_3 := BB.cell 3; have e3_4 := BB.cell 4; have e3_5 := BB.cell 5; have e3_6 := BB.cell 6; simp at e3_0 e3_1 e3_2 e3_3 e3_4 e3_5 e3_6
  go_wp2_with fail
  refine (toIntS_any B4 d4 x4 _ (Hr4.out.past Hb.out) Hn4.out).mono ?_; rintro e w4 ⟨A4, c4, rfl, O4, h⟩
  replace BB := BB.past h
  replace BR := BR.past h
  replace BO := BO.past h
  replace Hb := Lib.hid (thenB Hb.out h)
  have y3 : s3.heap.size ≤ w4.heap.size := h.size
  replace O1 := own_past O1 h
  replace O2 := own_past O2 h
  replace O3 := own_past O3 h
  have N4 : ∀ a, A4 = some a → w.heap.size + 1 + 1 < a.block := fun a e => Nat.lt_of_lt_of_le (show w.heap.size + 1 + 1 < s3.heap.size by omega) (own_lo O4 a e)
  have U4 := own_hi O4
  have L4 := own_lo O4
  replace O4 := own_mono O4 (show w.heap.size ≤ s3.heap.size by omega)
  clear h e3_0 e3_1 e3_2 e3_3 e3_4 e3_5 e3_6
  have p5 := BO.cell 5; have f5 := BO.frozen 5; simp at p5
  go_upto_region 6 with fail
  clear p5 f5
  have T := turn_set (turn_refl w4 (w.heap.size + 1 + 1)) (p := ⟨w.heap.size + 1 + 1, 5, none⟩) rfl (.slice A4 x4.length c4)
  replace BB := (BB.far (p := ⟨w.heap.size + 1 + 1, 5, none⟩) (show w.heap.size ≠ w.heap.size + 1 + 1 by omega) (.slice A4 x4.length c4))
  replace BR := (BR.far (p := ⟨w.heap.size + 1 + 1, 5, none⟩) (show w.heap.size + 1 ≠ w.heap.size + 1 + 1 by omega) (.slice A4 x4.length c4))
  replace BO : Blk (w4.setCell ⟨w.heap.size + 1 + 1, 5, none⟩ (.slice A4 x4.length c4)) (w.heap.size + 1 + 1) 33 #[.int .i64 l, .int .i64 s, .slice A1 x1.length c1, .slice A2 x2.length c2, .slice A3 x3.length c3, .slice A4 x4.length c4, .slice none 0 0] := (BO.set_ 5 (.slice A4 x4.length c4))
  replace O1 := own_grown O1 T (fun a e e' => by have h1 := N1 a e; have h2 := Option.some.inj e'; omega)
  replace O2 := own_grown O2 T (fun a e e' => by have h1 := N2 a e; have h2 := Option.some.inj e'; omega)
  replace O3 := own_grown O3 T (fun a e e' => by have h1 := N3 a e; have h2 := Option.some.inj e'; omega)
  replace O4 := own_grown O4 T (fun a e e' => by have h1 := N4 a e; have h2 := Option.some.inj e'; omega)
  replace Hb := Lib.hid ((Hb.out.setCell (p := ⟨w.heap.size + 1 + 1, 5, none⟩) (show w.heap.size ≤ w.heap.size + 1 + 1 by omega) (.slice A4 x4.length c4)))
  have zx3 : w4.heap.size ≤ (w4.setCell ⟨w.heap.size + 1 + 1, 5, none⟩ (.slice A4 x4.length c4)).heap.size := T.size
  obtain ⟨s4, hs⟩ : ∃ V, V = (w4.setCell ⟨w.heap.size + 1 + 1, 5, none⟩ (.slice A4 x4.length c4)) := ⟨_, rfl⟩
  rw [← hs] at BB BR BO Hb zx3 O1 O2 O3 O4 ⊢
  clear hs T b3
  have b4 := Lib.hid BB
  have e4_0 := BB.cell 0; have e4_1 := BB.cell 1; have e4_2 := BB.cell 2; have e4_3 := BB.cell 3; have e4_4 := BB.cell 4; have e4_5 := BB.cell 5; have e4_6 := BB.cell 6; simp at e4_0 e4_1 e4_2 e4_3 e4_4 e4_5 e4_6
  go_wp2_with fail
  refine (toIntS_any B5 d5 x5 _ (Hr5.out.past Hb.out) Hn5.out).mono ?_; rintro e w5 ⟨A5, c5, rfl, O5, h⟩
  replace BB := BB.past h
  replace BR := BR.past h
  replace BO := BO.past h
  replace Hb := Lib.hid (thenB Hb.out h)
  have y4 : s4.heap.size ≤ w5.heap.size := h.size
  replace O1 := own_past O1 h
  replace O2 := own_past O2 h
  replace O3 := own_past O3 h
  replace O4 := own_past O4 h
  have N5 : ∀ a, A5 = some a → w.heap.size + 1 + 1 < a.block := fun a e => Nat.lt_of_lt_of_le (show w.heap.size + 1 + 1 < s4.heap.size by omega) (own_lo O5 a e)
  have U5 := own_hi O5
  have L5 := own_lo O5
  replace O5 := own_mono O5 (show w.heap.size ≤ s4.heap.size by omega)
  clear h e4_0 e4_1 e4_2 e4_3 e4_4 e4_5 e4_6
  have p6 := BO.cell 6; have f6 := BO.frozen 6; simp at p6
  go_upto_region 7 with fail
  clear p6 f6
  have T := turn_set (turn_refl w5 (w.heap.size + 1 + 1)) (p := ⟨w.heap.size + 1 + 1, 6, none⟩) rfl (.slice A5 x5.length c5)
  replace BB := (BB.far (p := ⟨w.heap.size + 1 + 1, 6, none⟩) (show w.heap.size ≠ w.heap.size + 1 + 1 by omega) (.slice A5 x5.length c5))
  replace BR := (BR.far (p := ⟨w.heap.size + 1 + 1, 6, none⟩) (show w.heap.size + 1 ≠ w.heap.size + 1 + 1 by omega) (.slice A5 x5.length c5))
  replace BO : Blk (w5.setCell ⟨w.heap.size + 1 + 1, 6, none⟩ (.slice A5 x5.length c5)) (w.heap.size + 1 + 1) 33 #[.int .i64 l, .int .i64 s, .slice A1 x1.length c1, .slice A2 x2.length c2, .slice A3 x3.length c3, .slice A4 x4.length c4, .slice A5 x5.length c5] := (BO.set_ 6 (.slice A5 x5.length c5))
  replace O1 := own_grown O1 T (fun a e e' => by have h1 := N1 a e; have h2 := Option.some.inj e'; omega)
  replace O2 := own_grown O2 T (fun a e e' => by have h1 := N2 a e; have h2 := Option.some.inj e'; omega)
  replace O3 := own_grown O3 T (fun a e e' => by have h1 := N3 a e; have h2 := Option.some.inj e'; omega)
  replace O4 := own_grown O4 T (fun a e e' => by have h1 := N4 a e; have h2 := Option.some.inj e'; omega)
  replace O5 := own_grown O5 T (fun a e e' => by have h1 := N5 a e; have h2 := Option.some.inj e'; omega)
  replace Hb := Lib.hid ((Hb.out.setCell (p := ⟨w.heap.size + 1 + 1, 6, none⟩) (show w.heap.size ≤ w.heap.size + 1 + 1 by omega) (.slice A5 x5.length c5)))
  have zx4 : w5.heap.size ≤ (w5.setCell ⟨w.heap.size + 1 + 1, 6, none⟩ (.slice A5 x5.length c5)).heap.size := T.size
  obtain ⟨s5, hs⟩ : ∃ V, V = (w5.setCell ⟨w.heap.size + 1 + 1, 6, none⟩ (.slice A5 x5.length c5)) := ⟨_, rfl⟩
  rw [← hs] at BB BR BO Hb zx4 O1 O2 O3 O4 O5 ⊢
  clear hs T b4
  have g0 := BO.cell 0; have p0 := BR.cell 0; have f0 := BR.frozen 0; have g1 := BO.cell 1; have p1 := BR.cell 1; have f1 := BR.frozen 1; have g2 := BO.cell 2; have p2 := BR.cell 2; have f2 := BR.frozen 2; have g3 := BO.cell 3; have p3 := BR.cell 3; have f3 := BR.frozen 3; have g4 := BO.cell 4; have p4 := BR.cell 4; have f4 := BR.frozen 4; have g5 := BO.cell 5; have p5 := BR.cell 5; have f5 := BR.frozen 5; have g6 := BO.cell 6; have p6 := BR.cell 6; have f6 := BR.frozen 6; simp at g0 p0 g1 p1 g2 p2 g3 p3 g4 p4 g5 p5 g6 p6
  have T := turn_set (turn_set (turn_set (turn_set (turn_set (turn_set (turn_set (turn_refl s5 (w.heap.size + 1)) (p := ⟨w.heap.size + 1, 0, none⟩) rfl (.int .i64 l)) (p := ⟨w.heap.size + 1, 1, none⟩) rfl (.int .i64 s)) (p := ⟨w.heap.size + 1, 2, none⟩) rfl (.slice A1 x1.length c1)) (p := ⟨w.heap.size + 1, 3, none⟩) rfl (.slice A2 x2.length c2)) (p := ⟨w.heap.size + 1, 4, none⟩) rfl (.slice A3 x3.length c3)) (p := ⟨w.heap.size + 1, 5, none⟩) rfl (.slice A4 x4.length c4)) (p := ⟨w.heap.size + 1, 6, none⟩) rfl (.slice A5 x5.length c5)
  have RF := (((((((BR.set_ 0 (.int .i64 l)).set_ 1 (.int .i64 s)).set_ 2 (.slice A1 x1.length c1)).set_ 3 (.slice A2 x2.length c2)).set_ 4 (.slice A3 x3.length c3)).set_ 5 (.slice A4 x4.length c4)).set_ 6 (.slice A5 x5.length c5))
  have d0 := RF.cell 0; have d1 := RF.cell 1; have d2 := RF.cell 2; have d3 := RF.cell 3; have d4 := RF.cell 4; have d5 := RF.cell 5; have d6 := RF.cell 6; simp at d0 d1 d2 d3 d4 d5 d6
  have D0 := Lib.hid d0
  have D1 := Lib.hid d1
  have D2 := Lib.hid d2
  have D3 := Lib.hid d3
  have D4 := Lib.hid d4
  have D5 := Lib.hid d5
  have D6 := Lib.hid d6
  have Q1 := Lib.hid (own_grown O1 T (fun a e e' => by have h1 := N1 a e; have h2 := Option.some.inj e'; omega))
  have Q2 := Lib.hid (own_grown O2 T (fun a e e' => by have h1 := N2 a e; have h2 := Option.some.inj e'; omega))
  have Q3 := Lib.hid (own_grown O3 T (fun a e e' => by have h1 := N3 a e; have h2 := Option.some.inj e'; omega))
  have Q4 := Lib.hid (own_grown O4 T (fun a e e' => by have h1 := N4 a e; have h2 := Option.some.inj e'; omega))
  have Q5 := Lib.hid (own_grown O5 T (fun a e e' => by have h1 := N5 a e; have h2 := Option.some.inj e'; omega))
  have HB := Lib.hid ((((((((Hb.out.setCell (p := ⟨w.heap.size + 1, 0, none⟩) (show w.heap.size ≤ w.heap.size + 1 by omega) (.int .i64 l)).setCell (p := ⟨w.heap.size + 1, 1, none⟩) (show w.heap.size ≤ w.heap.size + 1 by omega) (.int .i64 s)).setCell (p := ⟨w.heap.size + 1, 2, none⟩) (show w.heap.size ≤ w.heap.size + 1 by omega) (.slice A1 x1.length c1)).setCell (p := ⟨w.heap.size + 1, 3, none⟩) (show w.heap.size ≤ w.heap.size + 1 by omega) (.slice A2 x2.length c2)).setCell (p := ⟨w.heap.size + 1, 4, none⟩) (show w.heap.size ≤ w.heap.size + 1 by omega) (.slice A3 x3.length c3)).setCell (p := ⟨w.heap.size + 1, 5, none⟩) (show w.heap.size ≤ w.heap.size + 1 by omega) (.slice A4 x4.length c4)).setCell (p := ⟨w.heap.size + 1, 6, none⟩) (show w.heap.size ≤ w.heap.size + 1 by omega) (.slice A5 x5.length c5)))
  have P12 : Hid (Apart A1 A2) := apart_lt U1 L2 (by omega)
  have P13 : Hid (Apart A1 A3) := apart_lt U1 L3 (by omega)
  have P14 : Hid (Apart A1 A4) := apart_lt U1 L4 (by omega)
  have P15 : Hid (Apart A1 A5) := apart_lt U1 L5 (by omega)
  have P23 : Hid (Apart A2 A3) := apart_lt U2 L3 (by omega)
  have P24 : Hid (Apart A2 A4) := apart_lt U2 L4 (by omega)
  have P25 : Hid (Apart A2 A5) := apart_lt U2 L5 (by omega)
  have P34 : Hid (Apart A3 A4) := apart_lt U3 L4 (by omega)
  have P35 : Hid (Apart A3 A5) := apart_lt U3 L5 (by omega)
  have P45 : Hid (Apart A4 A5) := apart_lt U4 L5 (by omega)
  clear RF T BB BO BR d0 d1 d2 d3 d4 d5 d6 O1 O2 O3 O4 O5
  go_wp2
  refine bodyPost_ret (toBench_res rfl D0.out D1.out D2.out D3.out D4.out D5.out D6.out) rfl ?_
  exact ⟨A1, c1, A2, c2, A3, c3, A4, c4, A5, c5, rfl, Q1.out, Q2.out, Q3.out, Q4.out, Q5.out, P12.out, P13.out, P14.out, P15.out, P23.out, P24.out, P25.out, P34.out, P35.out, P45.out, HB.out⟩
end Go.Proofs.YtgkijkenbjjnmaaGreatDoor
