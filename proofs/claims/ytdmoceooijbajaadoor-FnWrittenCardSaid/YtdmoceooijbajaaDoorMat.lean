/- Words for slices of slices of ints. -/
import Derived.Test.YtdmoceooijbajaaDoorBase
namespace Go.Proofs.YtdmoceooijbajaaDoor
open Go.RowKit
set_option linter.unusedVariables false
set_option linter.unusedSimpArgs false
/-- A row: where it lies, its capacity, what it reads as. -/
structure Rw where
  A : Option Addr
  c : Nat
  xs : List Int
def Rw.val (r : Rw) : Value := .slice r.A r.xs.length r.c
/-- The slice '.slice A rs.length c' reads as the rows rs, and they as their lists. -/
def RdM (w : World) (B : Nat) (A : Option Addr) (rs : List Rw) : Prop :=
  (0 < rs.length → ∃ ad, A = some ad ∧ ad.block < B ∧ ∀ j r, rs[j]? = some r → w.cell? (ad.add j) = some r.val) ∧ ∀ r ∈ rs, Rd w B r.A r.xs
def lists (rs : List Rw) : List (List Int) := rs.map (·.xs)
theorem lists_length (rs : List Rw) : (lists rs).length = rs.length := by simp [lists]
theorem lists_getD {rs : List Rw} {j : Nat} (h : j < rs.length) : (lists rs).getD j [] = rs[j].xs := by simp [lists, h]
theorem lists_all (rs : List Rw) (p : List Int → Bool) : (lists rs).all p = rs.all fun r => p r.xs := by simp [lists, List.all_map, Function.comp_def]
section
variable {w w' : World} {B B' : Nat} {A : Option Addr} {rs : List Rw}
theorem RdM.keep (h : RdM w B A rs) (hk : ∀ p : Addr, p.block < B → w'.cell? p = w.cell? p) : RdM w' B A rs :=
  ⟨fun h0 => by
    obtain ⟨ad, e, hb, hc⟩ := h.1 h0
    exact ⟨ad, e, hb, fun j r hj => (hk _ (by rw [block_add]; exact hb)).trans (hc j r hj)⟩, fun r hr => (h.2 r hr).keep hk⟩
theorem RdM.more (h : RdM w B A rs) (hB : B ≤ B') : RdM w B' A rs :=
  ⟨fun h0 => by
    obtain ⟨ad, e, hb, hc⟩ := h.1 h0
    exact ⟨ad, e, by omega, hc⟩, fun r hr => (h.2 r hr).more hB⟩
theorem RdM.below (h : RdM w B A rs) (hb : Below B w w') : RdM w' B A rs := h.keep fun _ hp => hb.cell hp
theorem RdM.past (h : RdM w w.heap.size A rs) (hb : Below w.heap.size w w') : RdM w' w'.heap.size A rs := (h.below hb).more hb.size
theorem RdM.at_ {k : Nat} (h : RdM w B A rs) (hk : k < rs.length) : ∃ ad, A = some ad ∧ ad.block < B ∧ ∀ j r, rs[j]? = some r → w.cell? (ad.add j) = some r.val := h.1 (by omega)
theorem RdM.row (h : RdM w B A rs) {k : Nat} (hk : k < rs.length) : Rd w B rs[k].A rs[k].xs := h.2 _ (List.getElem_mem hk)
end
end Go.Proofs.YtdmoceooijbajaaDoor
