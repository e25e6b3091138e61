/- How an argument that is a slice of slices of ints is opened. -/
import Derived.Test.YteabibkbmigpaaaMatFn
import Derived.Deep.Matrix
namespace Go.Proofs.Yteabibkbmigpaaa
open Go.RowKit
set_option linter.unusedVariables false
set_option linter.unusedSimpArgs false
section
open Go.ChangeShapes Go.WideShapes Go.Joins Go.Deep
variable {H : Type} {enc : TypeId × Value → H} {P : Program} {w : World} {base : Nat} {held : Bool}
theorem arg_rows {r : Reach} {b0 : Nat} {t e q : TypeId} {v : Value} {d : DataW H} {ps : List MemPlace} (ht : P.underlying t = some (.slice e)) (he : P.underlying e = some (.slice q)) (hq : P.underlying q = some (.int .i64)) (ce : P.cellsOf e = 1) (cq : P.cellsOf q = 1)
    (hval : Value.okWide P w r b0 t v) (hd : DataW.Trod enc P w base (fun _ => true) held t v d ps) :
    ∃ A rs c, v = .slice A (rs : List Rw).length c ∧ rs.length ≤ c ∧ c ≤ maxLen ∧ RdM w w.heap.size A rs ∧ ∀ r ∈ rs, r.xs.length ≤ r.c ∧ r.c ≤ maxLen ∧ I64 r.xs := by
  obtain ⟨a, l, c, rfl⟩ := okWide_slice ht hval
  obtain ⟨n, hn⟩ := trod_of_Trod hd rfl
  rcases open_int_rows ht he hq ce cq hn with ⟨hcs, _⟩ | ⟨x, len, cap, A, L, C, Z, hcs, _, hl, hm, _, hrows⟩
  · simp at hcs
    obtain ⟨rfl, rfl, rfl⟩ := hcs
    exact ⟨none, [], 0, rfl, by simp, by simp [maxLen], ⟨fun h => absurd h (by simp), fun r hr => by cases hr⟩, fun r hr => by cases hr⟩
  · simp at hcs
    obtain ⟨rfl, rfl, rfl⟩ := hcs
    have each : ∀ i, i < l → w.cell? (x.add i) = some (Rw.val ⟨A i, C i, (Z i).take (L i)⟩) ∧ Rd w w.heap.size (A i) ((Z i).take (L i)) ∧ ((Z i).take (L i)).length ≤ C i ∧ C i ≤ maxLen ∧ I64 ((Z i).take (L i)) := by
      intro i hi
      obtain ⟨e1, e2, e3, e4, e5, e6, e7⟩ := hrows i (by omega)
      have hlen : ((Z i).take (L i)).length = L i := by rw [List.length_take]; omega
      refine ⟨?_, fun h0 => ?_, by omega, e3, fun n hn => wf_i64 (e5 n (List.mem_of_mem_take hn))⟩
      · show _ = some (Value.slice (A i) ((Z i).take (L i)).length (C i))
        rw [hlen]
        exact e1
      · cases hA : A i with
        | none =>
          have := e6 hA
          omega
        | some a' =>
          have hb : ∀ j, j < ((Z i).take (L i)).length → w.cell? (a'.add j) = some (.int .i64 (((Z i).take (L i)).getD j 0)) := fun j hj => by
            have hj' : j < L i := by omega
            rw [(e7 a' hA).2 j (by omega)]
            simp [List.getD, hj']
          refine ⟨a', rfl, ?_, hb⟩
          have := World.block_lt_of_cell? w _ (hb 0 h0)
          rwa [block_add] at this
    refine ⟨some x, (List.range l).map fun i => ⟨A i, C i, (Z i).take (L i)⟩, c, by simp, by simpa using hl, hm, ⟨fun h0 => ?_, fun r hr => ?_⟩, fun r hr => ?_⟩
    · have h0' : 0 < l := by simpa using h0
      refine ⟨x, rfl, ?_, fun j r hj => ?_⟩
      · have := World.block_lt_of_cell? w _ (each 0 h0').1
        rwa [block_add] at this
      · have hjl : j < l := by
          have := (List.getElem?_eq_some_iff.1 hj).1
          simpa using this
        simp [hjl] at hj
        subst hj
        exact (each j hjl).1
    · simp only [List.mem_map, List.mem_range] at hr
      obtain ⟨i, hi, rfl⟩ := hr
      exact (each i hi).2.1
    · simp only [List.mem_map, List.mem_range] at hr
      obtain ⟨i, hi, rfl⟩ := hr
      exact (each i hi).2.2
end
end Go.Proofs.Yteabibkbmigpaaa
