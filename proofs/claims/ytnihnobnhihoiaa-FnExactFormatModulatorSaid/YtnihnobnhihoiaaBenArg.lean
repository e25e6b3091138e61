/- How an argument that is a bench is opened; contracts of the laws' own szBench and toBench. (Printed by mkbenarg.py.) -/
import Derived.Test.YtnihnobnhihoiaaBench
import Derived.Test.YtnihnobnhihoiaaMatFn
import Derived.Test.YtnihnobnhihoiaaGen
import Derived.Deep.CutRange
namespace Go.Proofs.Ytnihnobnhihoiaa
open Go.RowKit
set_option linter.unusedVariables false
set_option linter.unusedSimpArgs false
section
open Go.ChangeShapes Go.WideShapes Go.Joins Go.Deep
variable {H : Type} {enc : TypeId × Value → H} {P : Program} {w : World} {base : Nat} {spare : Nat → Bool} {held : Bool}
theorem list5 {α : Type} {xs : List α} (h : xs.length = 5) : ∃ a b c d e, xs = [a, b, c, d, e] := by
  match xs, h with
  | [a, b, c, d, e], _ => exact ⟨a, b, c, d, e, rfl⟩
theorem array7 {α : Type} {cs : Array α} (h : cs.size = 7) : ∃ a b c d e f g, cs = #[a, b, c, d, e, f, g] := by
  obtain ⟨l⟩ := cs
  match l, h with
  | [a, b, c, d, e, f, g], _ => exact ⟨a, b, c, d, e, f, g, rfl⟩
theorem arg_be {r : Reach} {b0 : Nat} {t e : TypeId} {f0 f1 f2 f3 f4 g0 g1 k0 k1 : Field} {v : Value} {d : DataW H} {p : List MemPlace} (hs : P.underlying t = some (.struct #[f0, f1, f2, f3, f4])) (hm : P.underlying f0.type = some (.struct #[g0, g1])) (hq : P.underlying g0.type = some (.struct #[k0, k1])) (hC : P.cellsOf t = 7)
    (o : f0.offset = 0 ∧ P.cellsOf f0.type = 3 ∧ f1.offset = 3 ∧ P.cellsOf f1.type = 1 ∧ f2.offset = 4 ∧ P.cellsOf f2.type = 1 ∧ f3.offset = 5 ∧ P.cellsOf f3.type = 1 ∧ f4.offset = 6 ∧ P.cellsOf f4.type = 1)
    (o2 : g0.offset = 0 ∧ P.cellsOf g0.type = 2 ∧ g1.offset = 2 ∧ P.cellsOf g1.type = 1) (o3 : k0.offset = 0 ∧ P.cellsOf k0.type = 1 ∧ k1.offset = 1 ∧ P.cellsOf k1.type = 1)
    (u0 : P.underlying k0.type = some (.int .i64)) (u1 : P.underlying k1.type = some (.int .i64)) (u2 : P.underlying g1.type = some (.slice e)) (u3 : P.underlying f1.type = some (.slice e)) (u4 : P.underlying f2.type = some (.slice e)) (u5 : P.underlying f3.type = some (.slice e)) (u6 : P.underlying f4.type = some (.slice e))
    (he : P.underlying e = some (.int .i64)) (hc : P.cellsOf e = 1) (hv : Value.okWide P w r b0 t v) (h : DataW.Trod enc P w base spare held t v d p) :
    ∃ l s A1 x1 c1 A2 x2 c2 A3 x3 c3 A4 x4 c4 A5 x5 c5, v = .agg #[.int .i64 l, .int .i64 s, .slice A1 (List.length x1) c1, .slice A2 (List.length x2) c2, .slice A3 (List.length x3) c3, .slice A4 (List.length x4) c4, .slice A5 (List.length x5) c5] ∧ List.length x1 ≤ c1 ∧ c1 ≤ maxLen ∧ Rd w w.heap.size A1 x1 ∧ List.length x2 ≤ c2 ∧ c2 ≤ maxLen ∧ Rd w w.heap.size A2 x2 ∧ List.length x3 ≤ c3 ∧ c3 ≤ maxLen ∧ Rd w w.heap.size A3 x3 ∧ List.length x4 ≤ c4 ∧ c4 ≤ maxLen ∧ Rd w w.heap.size A4 x4 ∧ List.length x5 ≤ c5 ∧ c5 ≤ maxLen ∧ Rd w w.heap.size A5 x5 := by
  obtain ⟨cs, rfl, hsz⟩ := okWide_struct hs hv
  obtain ⟨a0, a1, a2, a3, a4, a5, a6, rfl⟩ := array7 (hsz.trans hC)
  obtain ⟨fuel, hf⟩ := h
  obtain ⟨xs, n, _, _, _, hlen, hg⟩ := DataW.trod_struct hs hf
  obtain ⟨y0, y1, y2, y3, y4, rfl⟩ := list5 (by simpa using hlen)
  obtain ⟨p0, p1, p2, p3, p4, p5, p6, p7, p8, p9⟩ := o
  obtain ⟨r0, r1, r2, r3⟩ := o2
  obtain ⟨s0, s1, s2, s3⟩ := o3
  have h0 := hg 0 f0 rfl
  have h1 := hg 1 f1 rfl
  have h2 := hg 2 f2 rfl
  have h3 := hg 3 f3 rfl
  have h4 := hg 4 f4 rfl
  simp [Value.cells, p0, p1, p2, p3, p4, p5, p6, p7, p8, p9] at h0 h1 h2 h3 h4
  obtain ⟨z0, z1, n2, _, _, m0, m1⟩ := trod_struct2 hm h0
  simp [r0, r1, r2, r3] at m0 m1
  obtain ⟨w0, w1, n3, _, _, q0, q1⟩ := trod_struct2 hq m0
  simp [s0, s1, s2, s3] at q0 q1
  obtain ⟨l, rfl, _, _⟩ := fld_int u0 q0
  obtain ⟨s, rfl, _, _⟩ := fld_int u1 q1
  obtain ⟨A1, x1, c1, rfl, l1, m1, r1, _⟩ := fld_ints u2 he hc m1
  obtain ⟨A2, x2, c2, rfl, l2, m2, r2, _⟩ := fld_ints u3 he hc h1
  obtain ⟨A3, x3, c3, rfl, l3, m3, r3, _⟩ := fld_ints u4 he hc h2
  obtain ⟨A4, x4, c4, rfl, l4, m4, r4, _⟩ := fld_ints u5 he hc h3
  obtain ⟨A5, x5, c5, rfl, l5, m5, r5, _⟩ := fld_ints u6 he hc h4
  exact ⟨l, s, A1, x1, c1, A2, x2, c2, A3, x3, c3, A4, x4, c4, A5, x5, c5, rfl, l1, m1, r1, l2, m2, r2, l3, m3, r3, l4, m4, r4, l5, m5, r5⟩
end
theorem szModulator_any (A : Option Addr) (c n : Nat) (l s k : Int) (w : World) (hn : n ≤ 9223372036854775807) (k1 : 0 ≤ k) (k2 : k ≤ 1048576) :
    Calls Try.prog 9 #[.agg #[.int .i64 l, .int .i64 s, .slice A n c], .int .i64 k] w fun e w' => (∃ v : Int, e = .returned (.int .i64 v) ∧ ((v = -1 ∧ k < n) ∨ (v = k - n ∧ 0 ≤ v))) ∧ Below w.heap.size w w' := by
  have hb : Below w.heap.size w (w.alloc (.cells #[.int .i64 l, .int .i64 s, .slice A n c] 30)) := (Below.refl _ _).alloc (Nat.le_refl _) _
  have Hb := Lib.hid hb
  clear hb
  go_enter Try.func9, Try.ntmps9
  go_wp2_with fail
  refine (szIntS_any A c n k _ hn k1 k2).mono ?_
  rintro e w1 ⟨⟨v, rfl, hv⟩, rfl⟩
  rcases hv with ⟨rfl, hv⟩ | ⟨hv, hv0⟩
  · go_wp2_with fail
    go_ret
    exact ⟨⟨-1, rfl, .inl ⟨rfl, by omega⟩⟩, Hb.out⟩
  · have Hv := Lib.hid hv
    clear hv
    go_wp2_with fail
    go_ret
    exact ⟨⟨v, rfl, .inr ⟨Hv.out, hv0⟩⟩, Hb.out⟩
theorem toQuantiser_res {tmps : Array Value} {g : Nat} {w : World} {v0 v1 : Value} (hp : tmps.getD 2 undef = .pointer (some ⟨g, 0, none⟩)) (c0 : w.cell? ⟨g, 0, none⟩ = some v0) (c1 : w.cell? ⟨g, 1, none⟩ = some v1) :
    (results Try.f22 tmps).run Try.prog w = .ok (.agg #[v0, v1]) w := by
  have hp' := hp
  simp at hp'
  simp only [results, Try.results22]
  simp [go_sem, hp', c0, c1]
set_option maxRecDepth 100000 in
set_option maxHeartbeats 2000000 in
theorem toQuantiser_any (l s : Int) (w : World) :
    Calls Try.prog 22 #[.agg #[.int .i64 l, .int .i64 s]] w fun e w' => e = .returned (.agg #[.int .i64 l, .int .i64 s]) ∧ Below w.heap.size w w' := by
  obtain ⟨W, hW⟩ : ∃ W, W = ((w.alloc (.cells #[.int .i64 l, .int .i64 s] 28)).alloc (.cells #[.int .i64 0, .int .i64 0] 33)).alloc (.cells #[.int .i64 0, .int .i64 0] 33) := ⟨_, rfl⟩
  have Hb : Hid (Below w.heap.size w W) := by rw [hW]; exact (((Below.refl _ _).alloc (Nat.le_refl _) _).alloc (by simp) _).alloc (by simp; omega) _
  have BB : Blk W w.heap.size 28 #[.int .i64 l, .int .i64 s] := by rw [hW]; exact ((Blk.new w 28 #[.int .i64 l, .int .i64 s]).alloc _).alloc _
  have BR : Blk W (w.heap.size + 1) 33 #[.int .i64 0, .int .i64 0] := by rw [hW]; have := (Blk.new (w.alloc (.cells #[.int .i64 l, .int .i64 s] 28)) 33 #[.int .i64 0, .int .i64 0]).alloc (.cells #[.int .i64 0, .int .i64 0] 33); simpa using this
  have BO : Blk W (w.heap.size + 1 + 1) 33 #[.int .i64 0, .int .i64 0] := by rw [hW]; have := Blk.new ((w.alloc (.cells #[.int .i64 l, .int .i64 s] 28)).alloc (.cells #[.int .i64 0, .int .i64 0] 33)) 33 #[.int .i64 0, .int .i64 0]; simpa using this
  have z0 : w.heap.size + 1 + 1 < W.heap.size := BO.lt
  go_enter Try.func22, Try.ntmps22
  go_upto_region 2 with fail
  rw [← hW]
  clear hW
  have b0 := Lib.hid BB
  have e0_0 := BB.cell 0; have e0_1 := BB.cell 1; simp at e0_0 e0_1
  have p0 := BO.cell 0; have f0 := BO.frozen 0; simp at p0
  go_upto_region 3 with fail
  clear p0 f0 e0_0 e0_1
  have T := turn_set (turn_refl W (w.heap.size + 1 + 1)) (p := ⟨w.heap.size + 1 + 1, 0, none⟩) rfl (.int .i64 l)
  replace BB := (BB.far (p := ⟨w.heap.size + 1 + 1, 0, none⟩) (show w.heap.size ≠ w.heap.size + 1 + 1 by omega) (.int .i64 l))
  replace BR := (BR.far (p := ⟨w.heap.size + 1 + 1, 0, none⟩) (show w.heap.size + 1 ≠ w.heap.size + 1 + 1 by omega) (.int .i64 l))
  replace BO : Blk (W.setCell ⟨w.heap.size + 1 + 1, 0, none⟩ (.int .i64 l)) (w.heap.size + 1 + 1) 33 #[.int .i64 l, .int .i64 0] := (BO.set_ 0 (.int .i64 l))
  replace Hb := Lib.hid ((Hb.out.setCell (p := ⟨w.heap.size + 1 + 1, 0, none⟩) (show w.heap.size ≤ w.heap.size + 1 + 1 by omega) (.int .i64 l)))
  have zx0 : W.heap.size ≤ (W.setCell ⟨w.heap.size + 1 + 1, 0, none⟩ (.int .i64 l)).heap.size := T.size
  obtain ⟨s1, hs⟩ : ∃ V, V = (W.setCell ⟨w.heap.size + 1 + 1, 0, none⟩ (.int .i64 l)) := ⟨_, rfl⟩
  rw [← hs] at BB BR BO Hb zx0  ⊢
  clear hs T b0
  have b1 := Lib.hid BB
  have e1_0 := BB.cell 0; have e1_1 := BB.cell 1; simp at e1_0 e1_1
  have p1 := BO.cell 1; have f1 := BO.frozen 1; simp at p1
  go_upto_region 4 with fail
  clear p1 f1 e1_0 e1_1
  have T := turn_set (turn_refl s1 (w.heap.size + 1 + 1)) (p := ⟨w.heap.size + 1 + 1, 1, none⟩) rfl (.int .i64 s)
  replace BB := (BB.far (p := ⟨w.heap.size + 1 + 1, 1, none⟩) (show w.heap.size ≠ w.heap.size + 1 + 1 by omega) (.int .i64 s))
  replace BR := (BR.far (p := ⟨w.heap.size + 1 + 1, 1, none⟩) (show w.heap.size + 1 ≠ w.heap.size + 1 + 1 by omega) (.int .i64 s))
  replace BO : Blk (s1.setCell ⟨w.heap.size + 1 + 1, 1, none⟩ (.int .i64 s)) (w.heap.size + 1 + 1) 33 #[.int .i64 l, .int .i64 s] := (BO.set_ 1 (.int .i64 s))
  replace Hb := Lib.hid ((Hb.out.setCell (p := ⟨w.heap.size + 1 + 1, 1, none⟩) (show w.heap.size ≤ w.heap.size + 1 + 1 by omega) (.int .i64 s)))
  have zx1 : s1.heap.size ≤ (s1.setCell ⟨w.heap.size + 1 + 1, 1, none⟩ (.int .i64 s)).heap.size := T.size
  obtain ⟨s2, hs⟩ : ∃ V, V = (s1.setCell ⟨w.heap.size + 1 + 1, 1, none⟩ (.int .i64 s)) := ⟨_, rfl⟩
  rw [← hs] at BB BR BO Hb zx1  ⊢
  clear hs T b1
  have g0 := BO.cell 0; have p0 := BR.cell 0; have f0 := BR.frozen 0; have g1 := BO.cell 1; have p1 := BR.cell 1; have f1 := BR.frozen 1; simp at g0 p0 g1 p1
  have T := turn_set (turn_set (turn_refl s2 (w.heap.size + 1)) (p := ⟨w.heap.size + 1, 0, none⟩) rfl (.int .i64 l)) (p := ⟨w.heap.size + 1, 1, none⟩) rfl (.int .i64 s)
  have RF := ((BR.set_ 0 (.int .i64 l)).set_ 1 (.int .i64 s))
  have d0 := RF.cell 0; have d1 := RF.cell 1; simp at d0 d1
  have D0 := Lib.hid d0
  have D1 := Lib.hid d1
  have HB := Lib.hid (((Hb.out.setCell (p := ⟨w.heap.size + 1, 0, none⟩) (show w.heap.size ≤ w.heap.size + 1 by omega) (.int .i64 l)).setCell (p := ⟨w.heap.size + 1, 1, none⟩) (show w.heap.size ≤ w.heap.size + 1 by omega) (.int .i64 s)))
  clear RF T BB BO BR d0 d1 
  go_wp2
  refine bodyPost_ret (toQuantiser_res rfl D0.out D1.out) rfl ?_
  exact ⟨rfl, HB.out⟩
def RetMd (w : World) (l s : Int) (cs : List Int) (e : Ending) (w' : World) : Prop := ∃ A c, e = .returned (.agg #[.int .i64 l, .int .i64 s, .slice A cs.length c]) ∧ Own w' w.heap.size A c cs ∧ Below w.heap.size w w'
theorem toModulator_res {tmps : Array Value} {g : Nat} {w : World} {v0 v1 v2 : Value} (hp : tmps.getD 2 undef = .pointer (some ⟨g, 0, none⟩)) (c0 : w.cell? ⟨g, 0, none⟩ = some v0) (c1 : w.cell? ⟨g, 1, none⟩ = some v1) (c2 : w.cell? ⟨g, 2, none⟩ = some v2) :
    (results Try.f11 tmps).run Try.prog w = .ok (.agg #[v0, v1, v2]) w := by
  have hp' := hp
  simp at hp'
  simp only [results, Try.results11]
  simp [go_sem, hp', c0, c1, c2]
set_option maxRecDepth 100000 in
set_option maxHeartbeats 2000000 in
theorem toModulator_any (l s : Int) (B : Option Addr) (d : Nat) (b : List Int) (w : World) (hr : Rd w w.heap.size B b) (hn : b.length ≤ 1048576) :
    Calls Try.prog 11 #[.agg #[.int .i64 l, .int .i64 s, .slice B b.length d]] w (RetMd w l s b) := by
  obtain ⟨W, hW⟩ : ∃ W, W = ((w.alloc (.cells #[.int .i64 l, .int .i64 s, .slice B b.length d] 30)).alloc (.cells #[.int .i64 0, .int .i64 0, .slice none 0 0] 35)).alloc (.cells #[.int .i64 0, .int .i64 0, .slice none 0 0] 35) := ⟨_, rfl⟩
  have Hb : Hid (Below w.heap.size w W) := by rw [hW]; exact (((Below.refl _ _).alloc (Nat.le_refl _) _).alloc (by simp) _).alloc (by simp; omega) _
  have BB : Blk W w.heap.size 30 #[.int .i64 l, .int .i64 s, .slice B b.length d] := by rw [hW]; exact ((Blk.new w 30 #[.int .i64 l, .int .i64 s, .slice B b.length d]).alloc _).alloc _
  have BR : Blk W (w.heap.size + 1) 35 #[.int .i64 0, .int .i64 0, .slice none 0 0] := by rw [hW]; have := (Blk.new (w.alloc (.cells #[.int .i64 l, .int .i64 s, .slice B b.length d] 30)) 35 #[.int .i64 0, .int .i64 0, .slice none 0 0]).alloc (.cells #[.int .i64 0, .int .i64 0, .slice none 0 0] 35); simpa using this
  have BO : Blk W (w.heap.size + 1 + 1) 35 #[.int .i64 0, .int .i64 0, .slice none 0 0] := by rw [hW]; have := Blk.new ((w.alloc (.cells #[.int .i64 l, .int .i64 s, .slice B b.length d] 30)).alloc (.cells #[.int .i64 0, .int .i64 0, .slice none 0 0] 35)) 35 #[.int .i64 0, .int .i64 0, .slice none 0 0]; simpa using this
  have z0 : w.heap.size + 1 + 1 < W.heap.size := BO.lt
  have Hr := Lib.hid hr
  have Hn := Lib.hid hn
  clear hr hn
  go_enter Try.func11, Try.ntmps11
  go_upto_region 2 with fail
  rw [← hW]
  clear hW
  have b0 := Lib.hid BB
  have e0_0 := BB.cell 0; have e0_1 := BB.cell 1; have e0_2 := BB.cell 2; simp at e0_0 e0_1 e0_2
  go_wp2_with fail
  refine (toQuantiser_any l s _).mono ?_; rintro e w1 ⟨rfl, h⟩
  replace BB := BB.past h
  replace BR := BR.past h
  replace BO := BO.past h
  replace Hb := Lib.hid (thenB Hb.out h)
  have y0 : W.heap.size ≤ w1.heap.size := h.size
  clear h e0_0 e0_1 e0_2
  have p0 := BO.cell 0; have f0 := BO.frozen 0; have p1 := BO.cell 1; have f1 := BO.frozen 1; simp at p0 p1
  go_upto_region 3 with fail
  clear p0 f0 p1 f1
  have T := turn_set (turn_set (turn_refl w1 (w.heap.size + 1 + 1)) (p := ⟨w.heap.size + 1 + 1, 0, none⟩) rfl (.int .i64 l)) (p := ⟨w.heap.size + 1 + 1, 1, none⟩) rfl (.int .i64 s)
  replace BB := ((BB.far (p := ⟨w.heap.size + 1 + 1, 0, none⟩) (show w.heap.size ≠ w.heap.size + 1 + 1 by omega) (.int .i64 l)).far (p := ⟨w.heap.size + 1 + 1, 1, none⟩) (show w.heap.size ≠ w.heap.size + 1 + 1 by omega) (.int .i64 s))
  replace BR := ((BR.far (p := ⟨w.heap.size + 1 + 1, 0, none⟩) (show w.heap.size + 1 ≠ w.heap.size + 1 + 1 by omega) (.int .i64 l)).far (p := ⟨w.heap.size + 1 + 1, 1, none⟩) (show w.heap.size + 1 ≠ w.heap.size + 1 + 1 by omega) (.int .i64 s))
  replace BO : Blk ((w1.setCell ⟨w.heap.size + 1 + 1, 0, none⟩ (.int .i64 l)).setCell ⟨w.heap.size + 1 + 1, 1, none⟩ (.int .i64 s)) (w.heap.size + 1 + 1) 35 #[.int .i64 l, .int .i64 s, .slice none 0 0] := ((BO.set_ 0 (.int .i64 l)).set_ 1 (.int .i64 s))
  replace Hb := Lib.hid (((Hb.out.setCell (p := ⟨w.heap.size + 1 + 1, 0, none⟩) (show w.heap.size ≤ w.heap.size + 1 + 1 by omega) (.int .i64 l)).setCell (p := ⟨w.heap.size + 1 + 1, 1, none⟩) (show w.heap.size ≤ w.heap.size + 1 + 1 by omega) (.int .i64 s)))
  have zx0 : w1.heap.size ≤ ((w1.setCell ⟨w.heap.size + 1 + 1, 0, none⟩ (.int .i64 l)).setCell ⟨w.heap.size + 1 + 1, 1, none⟩ (.int .i64 s)).heap.size := T.size
  obtain ⟨s1, hs⟩ : ∃ V, V = ((w1.setCell ⟨w.heap.size + 1 + 1, 0, none⟩ (.int .i64 l)).setCell ⟨w.heap.size + 1 + 1, 1, none⟩ (.int .i64 s)) := ⟨_, rfl⟩
  rw [← hs] at BB BR BO Hb zx0  ⊢
  clear hs T b0
  have b1 := Lib.hid BB
  have e1_0 := BB.cell 0; have e1_1 := BB.cell 1; have e1_2 := BB.cell 2; simp at e1_0 e1_1 e1_2
  go_wp2_with fail
  refine (toIntS_any B d b _ (Hr.out.past Hb.out) Hn.out).mono ?_; rintro e w2 ⟨A1, c1, rfl, O1, h⟩
  replace BB := BB.past h
  replace BR := BR.past h
  replace BO := BO.past h
  replace Hb := Lib.hid (thenB Hb.out h)
  have y1 : s1.heap.size ≤ w2.heap.size := h.size
  have N1 : ∀ a, A1 = some a → w.heap.size + 1 + 1 < a.block := fun a e => Nat.lt_of_lt_of_le (show w.heap.size + 1 + 1 < s1.heap.size by omega) (own_lo O1 a e)
  have U1 := own_hi O1
  have L1 := own_lo O1
  replace O1 := own_mono O1 (show w.heap.size ≤ s1.heap.size by omega)
  clear h e1_0 e1_1 e1_2
  have p2 := BO.cell 2; have f2 := BO.frozen 2; simp at p2
  go_upto_region 4 with fail
  clear p2 f2
  have T := turn_set (turn_refl w2 (w.heap.size + 1 + 1)) (p := ⟨w.heap.size + 1 + 1, 2, none⟩) rfl (.slice A1 b.length c1)
  replace BB := (BB.far (p := ⟨w.heap.size + 1 + 1, 2, none⟩) (show w.heap.size ≠ w.heap.size + 1 + 1 by omega) (.slice A1 b.length c1))
  replace BR := (BR.far (p := ⟨w.heap.size + 1 + 1, 2, none⟩) (show w.heap.size + 1 ≠ w.heap.size + 1 + 1 by omega) (.slice A1 b.length c1))
  replace BO : Blk (w2.setCell ⟨w.heap.size + 1 + 1, 2, none⟩ (.slice A1 b.length c1)) (w.heap.size + 1 + 1) 35 #[.int .i64 l, .int .i64 s, .slice A1 b.length c1] := (BO.set_ 2 (.slice A1 b.length c1))
  replace O1 := own_grown O1 T (fun a e e' => by have h1 := N1 a e; have h2 := Option.some.inj e'; omega)
  replace Hb := Lib.hid ((Hb.out.setCell (p := ⟨w.heap.size + 1 + 1, 2, none⟩) (show w.heap.size ≤ w.heap.size + 1 + 1 by omega) (.slice A1 b.length c1)))
  have zx1 : w2.heap.size ≤ (w2.setCell ⟨w.heap.size + 1 + 1, 2, none⟩ (.slice A1 b.length c1)).heap.size := T.size
  obtain ⟨s2, hs⟩ : ∃ V, V = (w2.setCell ⟨w.heap.size + 1 + 1, 2, none⟩ (.slice A1 b.length c1)) := ⟨_, rfl⟩
  rw [← hs] at BB BR BO Hb zx1 O1 ⊢
  clear hs T b1
  have g0 := BO.cell 0; have p0 := BR.cell 0; have f0 := BR.frozen 0; have g1 := BO.cell 1; have p1 := BR.cell 1; have f1 := BR.frozen 1; have g2 := BO.cell 2; have p2 := BR.cell 2; have f2 := BR.frozen 2; simp at g0 p0 g1 p1 g2 p2
  have T := turn_set (turn_set (turn_set (turn_refl s2 (w.heap.size + 1)) (p := ⟨w.heap.size + 1, 0, none⟩) rfl (.int .i64 l)) (p := ⟨w.heap.size + 1, 1, none⟩) rfl (.int .i64 s)) (p := ⟨w.heap.size + 1, 2, none⟩) rfl (.slice A1 b.length c1)
  have RF := (((BR.set_ 0 (.int .i64 l)).set_ 1 (.int .i64 s)).set_ 2 (.slice A1 b.length c1))
  have d0 := RF.cell 0; have d1 := RF.cell 1; have d2 := RF.cell 2; simp at d0 d1 d2
  have D0 := Lib.hid d0
  have D1 := Lib.hid d1
  have D2 := Lib.hid d2
  have Q1 := Lib.hid (own_grown O1 T (fun a e e' => by have h1 := N1 a e; have h2 := Option.some.inj e'; omega))
  have HB := Lib.hid ((((Hb.out.setCell (p := ⟨w.heap.size + 1, 0, none⟩) (show w.heap.size ≤ w.heap.size + 1 by omega) (.int .i64 l)).setCell (p := ⟨w.heap.size + 1, 1, none⟩) (show w.heap.size ≤ w.heap.size + 1 by omega) (.int .i64 s)).setCell (p := ⟨w.heap.size + 1, 2, none⟩) (show w.heap.size ≤ w.heap.size + 1 by omega) (.slice A1 b.length c1)))
  clear RF T BB BO BR d0 d1 d2 O1
  go_wp2
  refine bodyPost_ret (toModulator_res rfl D0.out D1.out D2.out) rfl ?_
  exact ⟨A1, c1, rfl, Q1.out, HB.out⟩
def RetBe5 (w : World) (l s : Int) (x1 x2 x3 x4 x5 : List Int) (e : Ending) (w' : World) : Prop :=
  ∃ A1 c1 A2 c2 A3 c3 A4 c4 A5 c5, e = .returned (.agg #[.int .i64 l, .int .i64 s, .slice A1 x1.length c1, .slice A2 x2.length c2, .slice A3 x3.length c3, .slice A4 x4.length c4, .slice A5 x5.length c5]) ∧ Own w' w.heap.size A1 c1 x1 ∧ Own w' w.heap.size A2 c2 x2 ∧ Own w' w.heap.size A3 c3 x3 ∧ Own w' w.heap.size A4 c4 x4 ∧ Own w' w.heap.size A5 c5 x5 ∧ Apart A1 A2 ∧ Apart A1 A3 ∧ Apart A1 A4 ∧ Apart A1 A5 ∧ Apart A2 A3 ∧ Apart A2 A4 ∧ Apart A2 A5 ∧ Apart A3 A4 ∧ Apart A3 A5 ∧ Apart A4 A5 ∧ Below w.heap.size w w'
end Go.Proofs.Ytnihnobnhihoiaa
