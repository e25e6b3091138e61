/- How an argument that is a slice of bytes is opened. -/
import Derived.Test.YtdmoceooijbajaaDoorGen
namespace Go.Proofs.YtdmoceooijbajaaDoor
open Go.RowKit
set_option linter.unusedVariables false
set_option linter.unusedSimpArgs false
section
open Go.ChangeShapes Go.WideShapes Go.Joins Go.Deep
variable {H : Type} {enc : TypeId × Value → H} {P : Program} {w : World} {base : Nat} {spare : Nat → Bool} {held : Bool}
theorem wf_u8 {n : Int} (h : (Lit.int .u8 n).wf = true) : 0 ≤ n ∧ n ≤ 255 := by
  have e1 : IntKind.u8.min = 0 := by decide
  have e2 : IntKind.u8.max = 255 := by decide
  simp [Lit.wf, e1, e2] at h
  omega
theorem arg_bytes {r : Reach} {b0 : Nat} {t e : TypeId} {v : Value} {d : DataW H} {ps : List MemPlace} (ht : P.underlying t = some (.slice e)) (he : P.underlying e = some (.int .u8)) (hc : P.cellsOf e = 1)
    (hval : Value.okWide P w r b0 t v) (hd : DataW.Trod enc P w base spare held t v d ps) :
    ∃ A n c, v = .slice A n c ∧ n ≤ c ∧ c ≤ maxLen ∧ RdB w w.heap.size A n := by
  obtain ⟨a, l, c, rfl⟩ := okWide_slice ht hval
  obtain ⟨n, hn⟩ := trod_of_Trod hd rfl
  rcases open_ints ht he hc hn with ⟨hcs, _⟩ | ⟨x, l, c, zs, hcs, _, hl, hm, hz, _, hcell, hwz⟩
  · simp at hcs
    obtain ⟨rfl, rfl, rfl⟩ := hcs
    exact ⟨none, 0, 0, rfl, by simp, by simp [maxLen], fun h => absurd h (by simp)⟩
  · simp at hcs
    obtain ⟨rfl, rfl, rfl⟩ := hcs
    have hlz : l ≤ zs.length := by rw [hz]; split <;> omega
    refine ⟨some x, l, c, rfl, hl, hm, fun h0 => ?_⟩
    have hb : ∀ j, j < l → ∃ v : Int, 0 ≤ v ∧ v ≤ 255 ∧ w.cell? (x.add j) = some (.int .u8 v) := fun j hj => by
      have hj' : j < zs.length := by omega
      have := wf_u8 (hwz zs[j] (List.getElem_mem hj'))
      exact ⟨zs[j], this.1, this.2, by rw [hcell j hj']; simp [List.getD, hj']⟩
    refine ⟨x, rfl, ?_, hb⟩
    obtain ⟨v, _, _, hv⟩ := hb 0 h0
    have := World.block_lt_of_cell? w _ hv
    rwa [block_add] at this
end
end Go.Proofs.YtdmoceooijbajaaDoor
