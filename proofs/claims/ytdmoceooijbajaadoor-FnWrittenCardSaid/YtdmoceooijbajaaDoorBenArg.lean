/- How an argument that is a bench is opened; contracts of the laws' own szBench and toBench. (Printed by mkbenarg.py.) -/
import Derived.Test.YtdmoceooijbajaaDoorBench
import Derived.Test.YtdmoceooijbajaaDoorMatFn
import Derived.Test.YtdmoceooijbajaaDoorGen
import Derived.Deep.CutRange
namespace Go.Proofs.YtdmoceooijbajaaDoor
open Go.RowKit
set_option linter.unusedVariables false
set_option linter.unusedSimpArgs false
section
open Go.ChangeShapes Go.WideShapes Go.Joins Go.Deep
variable {H : Type} {enc : TypeId × Value → H} {P : Program} {w : World} {base : Nat} {spare : Nat → Bool} {held : Bool}
theorem list5 {α : Type} {xs : List α} (h : xs.length = 5) : ∃ a b c d e, xs = [a, b, c, d, e] := by
  match xs, h with
  | [a, b, c, d, e], _ => exact ⟨a, b, c, d, e, rfl⟩
theorem array7 {α : Type} {cs : Array α} (h : cs.size = 7) : ∃ a b c d e f g, cs = #[a, b, c, d, e, f, g] := by
  obtain ⟨l⟩ := cs
  match l, h with
  | [a, b, c, d, e, f, g], _ => exact ⟨a, b, c, d, e, f, g, rfl⟩
theorem arg_be {r : Reach} {b0 : Nat} {t e : TypeId} {f0 f1 f2 f3 f4 g0 g1 k0 k1 : Field} {v : Value} {d : DataW H} {p : List MemPlace} (hs : P.underlying t = some (.struct #[f0, f1, f2, f3, f4])) (hm : P.underlying f0.type = some (.struct #[g0, g1])) (hq : P.underlying g0.type = some (.struct #[k0, k1])) (hC : P.cellsOf t = 7)
    (o : f0.offset = 0 ∧ P.cellsOf f0.type = 3 ∧ f1.offset = 3 ∧ P.cellsOf f1.type = 1 ∧ f2.offset = 4 ∧ P.cellsOf f2.type = 1 ∧ f3.offset = 5 ∧ P.cellsOf f3.type = 1 ∧ f4.offset = 6 ∧ P.cellsOf f4.type = 1)
    (o2 : g0.offset = 0 ∧ P.cellsOf g0.type = 2 ∧ g1.offset = 2 ∧ P.cellsOf g1.type = 1) (o3 : k0.offset = 0 ∧ P.cellsOf k0.type = 1 ∧ k1.offset = 1 ∧ P.cellsOf k1.type = 1)
    (u0 : P.underlying k0.type = some (.int .i64)) (u1 : P.underlying k1.type = some (.int .i64)) (u2 : P.underlying g1.type = some (.slice e)) (u3 : P.underlying f1.type = some (.slice e)) (u4 : P.underlying f2.type = some (.slice e)) (u5 : P.underlying f3.type = some (.slice e)) (u6 : P.underlying f4.type = some (.slice e))
    (he : P.underlying e = some (.int .i64)) (hc : P.cellsOf e = 1) (hv : Value.okWide P w r b0 t v) (h : DataW.Trod enc P w base spare held t v d p) :
    ∃ l s A1 x1 c1 A2 x2 c2 A3 x3 c3 A4 x4 c4 A5 x5 c5, v = .agg #[.int .i64 l, .int .i64 s, .slice A1 (List.length x1) c1, .slice A2 (List.length x2) c2, .slice A3 (List.length x3) c3, .slice A4 (List.length x4) c4, .slice A5 (List.length x5) c5] ∧ List.length x1 ≤ c1 ∧ c1 ≤ maxLen ∧ Rd w w.heap.size A1 x1 ∧ List.length x2 ≤ c2 ∧ c2 ≤ maxLen ∧ Rd w w.heap.size A2 x2 ∧ List.length x3 ≤ c3 ∧ c3 ≤ maxLen ∧ Rd w w.heap.size A3 x3 ∧ List.length x4 ≤ c4 ∧ c4 ≤ maxLen ∧ Rd w w.heap.size A4 x4 ∧ List.length x5 ≤ c5 ∧ c5 ≤ maxLen ∧ Rd w w.heap.size A5 x5 := by
  obtain ⟨cs, rfl, hsz⟩ := okWide_struct hs hv
  obtain ⟨a0, a1, a2, a3, a4, a5, a6, rfl⟩ := array7 (hsz.trans hC)
  obtain ⟨fuel, hf⟩ := h
  obtain ⟨xs, n, _, _, _, hlen, hg⟩ := DataW.trod_struct hs hf
  obtain ⟨y0, y1, y2, y3, y4, rfl⟩ := list5 (by simpa using hlen)
  obtain ⟨p0, p1, p2, p3, p4, p5, p6, p7, p8, p9⟩ := o
  obtain ⟨r0, r1, r2, r3⟩ := o2
  obtain ⟨s0, s1, s2, s3⟩ := o3
  have h0 := hg 0 f0 rfl
  have h1 := hg 1 f1 rfl
  have h2 := hg 2 f2 rfl
  have h3 := hg 3 f3 rfl
  have h4 := hg 4 f4 rfl
  simp [Value.cells, p0, p1, p2, p3, p4, p5, p6, p7, p8, p9] at h0 h1 h2 h3 h4
  obtain ⟨z0, z1, n2, _, _, m0, m1⟩ := trod_struct2 hm h0
  simp [r0, r1, r2, r3] at m0 m1
  obtain ⟨w0, w1, n3, _, _, q0, q1⟩ := trod_struct2 hq m0
  simp [s0, s1, s2, s3] at q0 q1
  obtain ⟨l, rfl, _, _⟩ := fld_int u0 q0
  obtain ⟨s, rfl, _, _⟩ := fld_int u1 q1
  obtain ⟨A1, x1, c1, rfl, l1, m1, r1, _⟩ := fld_ints u2 he hc m1
  obtain ⟨A2, x2, c2, rfl, l2, m2, r2, _⟩ := fld_ints u3 he hc h1
  obtain ⟨A3, x3, c3, rfl, l3, m3, r3, _⟩ := fld_ints u4 he hc h2
  obtain ⟨A4, x4, c4, rfl, l4, m4, r4, _⟩ := fld_ints u5 he hc h3
  obtain ⟨A5, x5, c5, rfl, l5, m5, r5, _⟩ := fld_ints u6 he hc h4
  exact ⟨l, s, A1, x1, c1, A2, x2, c2, A3, x3, c3, A4, x4, c4, A5, x5, c5, rfl, l1, m1, r1, l2, m2, r2, l3, m3, r3, l4, m4, r4, l5, m5, r5⟩
end
def RetMd (w : World) (l s : Int) (cs : List Int) (e : Ending) (w' : World) : Prop := ∃ A c, e = .returned (.agg #[.int .i64 l, .int .i64 s, .slice A cs.length c]) ∧ Own w' w.heap.size A c cs ∧ Below w.heap.size w w'
def RetBe5 (w : World) (l s : Int) (x1 x2 x3 x4 x5 : List Int) (e : Ending) (w' : World) : Prop :=
  ∃ A1 c1 A2 c2 A3 c3 A4 c4 A5 c5, e = .returned (.agg #[.int .i64 l, .int .i64 s, .slice A1 x1.length c1, .slice A2 x2.length c2, .slice A3 x3.length c3, .slice A4 x4.length c4, .slice A5 x5.length c5]) ∧ Own w' w.heap.size A1 c1 x1 ∧ Own w' w.heap.size A2 c2 x2 ∧ Own w' w.heap.size A3 c3 x3 ∧ Own w' w.heap.size A4 c4 x4 ∧ Own w' w.heap.size A5 c5 x5 ∧ Apart A1 A2 ∧ Apart A1 A3 ∧ Apart A1 A4 ∧ Apart A1 A5 ∧ Apart A2 A3 ∧ Apart A2 A4 ∧ Apart A2 A5 ∧ Apart A3 A4 ∧ Apart A3 A5 ∧ Apart A4 A5 ∧ Below w.heap.size w w'
end Go.Proofs.YtdmoceooijbajaaDoor
