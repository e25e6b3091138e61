/- Contracts of the program's OrderModulator and BitsOf where they give a modulator and bits. -/
import Derived.Test.YtdmoceooijbajaaDoorRunM
import Derived.Test.YtdmoceooijbajaaDoorMatRun
import Derived.Test.YtdmoceooijbajaaDoorDiff
import Derived.Deep.RegionLaw
namespace Go.Proofs.YtdmoceooijbajaaDoor
open Go.RowKit
set_option linter.unusedVariables false
set_option linter.unusedSimpArgs false
theorem step_app_list {w : World} {ops : Array Oper} {o : Oper} {a : Act} {K : Act → World → Prop} {Q : Exit → Act → World → Prop} {E : Prop} (hgd : o.guard = none) (s x : Operand)
    (ho : o.op = .call { callee := .builtin .append, args := #[s, x], argTypes := #[22, 22] })
    (B : Nat) (A : Option Addr) (c n : Nat) (xs : List Int) (hl : xs.length = n) (hs : a.eval s = .slice A n c) (hown : Own w B A c xs) (B2 : Nat) (A2 : Option Addr) (c2 : Nat) (ys : List Int) (hx : a.eval x = .slice A2 ys.length c2) (hr : Rd w B2 A2 ys)
    (hn : n + ys.length ≤ 1048576) (hB : B ≤ w.heap.size)
    (h : ∀ A' c' w', Own w' B A' c' (xs ++ ys) → Wrote w w' A → Moved A A' w.heap.size → K (a.put o.dst (.slice A' (n + ys.length) c')) w') :
    if Region.wanted o (yielded ops a.tmps) = true then Oper.wp Tryd.prog o a w K Q else E := by
  subst hl
  have hw : Region.wanted o (yielded ops a.tmps) = true := by simp [Region.wanted, hgd]
  rw [if_pos hw]
  obtain ⟨A', c', w', hrun, h2, h3, h5⟩ := run_app_list w o.type B A c xs hown B2 A2 c2 ys hr (by omega) hB
  unfold Oper.wp execOp
  simp only [ho, resolve, invoke, builtin, Sem.run_bind, Sem.run_pure, Result.andThen_ok, List.map_toArray, List.map_cons, List.map_nil, hs, hx, hrun]
  exact h A' c' w' h2 h3 h5
def RetMod (w : World) (l s : Int) (cs : List Int) (b : Bool) (e : Ending) (w' : World) : Prop :=
  ∃ A c, e = .returned (.tuple #[.agg #[.int .i64 l, .int .i64 s, .slice A cs.length c], .bool b]) ∧ Own w' w.heap.size A c cs ∧ Below w.heap.size w w'
theorem rd_drop {w : World} {B g o : Nat} {xs : List Int} (h : Rd w B (some ⟨g, o, none⟩) xs) (i : Nat) : Rd w B (some ⟨g, o + i, none⟩) (xs.drop i) := fun h0 => by
  have hl : (xs.drop i).length = xs.length - i := List.length_drop
  obtain ⟨ad, e, hb, hc⟩ := h (by omega)
  obtain rfl := Option.some.inj e
  refine ⟨_, rfl, hb, fun j hj => ?_⟩
  have := hc (i + j) (by omega)
  rw [Addr.add_lit] at this ⊢
  rw [Nat.add_assoc, this]
  simp [List.getD, List.getElem?_drop]
end Go.Proofs.YtdmoceooijbajaaDoor
