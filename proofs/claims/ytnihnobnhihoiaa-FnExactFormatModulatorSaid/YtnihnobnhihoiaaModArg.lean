/- How an argument that is a modulator is opened. -/
import Derived.Test.YtnihnobnhihoiaaBenArg
namespace Go.Proofs.Ytnihnobnhihoiaa
open Go.RowKit
set_option linter.unusedVariables false
set_option linter.unusedSimpArgs false
section
open Go.ChangeShapes Go.WideShapes Go.Joins Go.Deep
variable {H : Type} {enc : TypeId × Value → H} {P : Program} {w : World} {base : Nat} {spare : Nat → Bool} {held : Bool}
theorem list2 {α : Type} {xs : List α} (h : xs.length = 2) : ∃ a b, xs = [a, b] := by
  match xs, h with
  | [a, b], _ => exact ⟨a, b, rfl⟩
theorem array3 {α : Type} {cs : Array α} (h : cs.size = 3) : ∃ a b c, cs = #[a, b, c] := by
  obtain ⟨l⟩ := cs
  match l, h with
  | [a, b, c], _ => exact ⟨a, b, c, rfl⟩
theorem arg_mo {r : Reach} {b0 : Nat} {t e : TypeId} {f0 f1 k0 k1 : Field} {v : Value} {d : DataW H} {p : List MemPlace} (hs : P.underlying t = some (.struct #[f0, f1])) (hq : P.underlying f0.type = some (.struct #[k0, k1])) (hC : P.cellsOf t = 3)
    (o : f0.offset = 0 ∧ P.cellsOf f0.type = 2 ∧ f1.offset = 2 ∧ P.cellsOf f1.type = 1) (o3 : k0.offset = 0 ∧ P.cellsOf k0.type = 1 ∧ k1.offset = 1 ∧ P.cellsOf k1.type = 1)
    (u0 : P.underlying k0.type = some (.int .i64)) (u1 : P.underlying k1.type = some (.int .i64)) (u2 : P.underlying f1.type = some (.slice e))
    (he : P.underlying e = some (.int .i64)) (hc : P.cellsOf e = 1) (hv : Value.okWide P w r b0 t v) (h : DataW.Trod enc P w base spare held t v d p) :
    ∃ l s A x c, v = .agg #[.int .i64 l, .int .i64 s, .slice A (List.length x) c] ∧ List.length x ≤ c ∧ c ≤ maxLen ∧ Rd w w.heap.size A x := by
  obtain ⟨cs, rfl, hsz⟩ := okWide_struct hs hv
  obtain ⟨a0, a1, a2, rfl⟩ := array3 (hsz.trans hC)
  obtain ⟨fuel, hf⟩ := h
  obtain ⟨xs, n, _, _, _, hlen, hg⟩ := DataW.trod_struct hs hf
  obtain ⟨y0, y1, rfl⟩ := list2 (by simpa using hlen)
  obtain ⟨p0, p1, p2, p3⟩ := o
  obtain ⟨s0, s1, s2, s3⟩ := o3
  have h0 := hg 0 f0 rfl
  have h1 := hg 1 f1 rfl
  simp [Value.cells, p0, p1, p2, p3] at h0 h1
  obtain ⟨w0, w1, n3, _, _, q0, q1⟩ := trod_struct2 hq h0
  simp [s0, s1, s2, s3] at q0 q1
  obtain ⟨l, rfl, _, _⟩ := fld_int u0 q0
  obtain ⟨s, rfl, _, _⟩ := fld_int u1 q1
  obtain ⟨A, x, c, rfl, l1, m1, r1, _⟩ := fld_ints u2 he hc h1
  exact ⟨l, s, A, x, c, rfl, l1, m1, r1⟩
end
end Go.Proofs.Ytnihnobnhihoiaa
