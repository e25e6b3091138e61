/- Slices of bytes that own their row, their values known. -/
import Derived.Test.YtgkijkenbjjnmaaGreatDoorDec
import Derived.Test.YtgkijkenbjjnmaaGreatDoorBase
namespace Go.Proofs.YtgkijkenbjjnmaaGreatDoor
open Go.RowKit
set_option linter.unusedVariables false
set_option linter.unusedSimpArgs false
def cellY (b : UInt8) : Value := .int .u8 (b.toNat : Int)
def OwnY (w : World) (B : Nat) (A : Option Addr) (c : Nat) (xs : List UInt8) : Prop := w.ownsRow B 5 1 (.slice A xs.length c) xs.length (xs.map cellY)
theorem u8Info : (Tryz.prog.info? 5).map (fun i => (i.zero, i.size, i.bytes)) = some (some (.int .u8 0), 1, 1) := by kernel_rfl
theorem ownY_lo {w : World} {B c : Nat} {A : Option Addr} {xs : List UInt8} (h : OwnY w B A c xs) : Lo A B := fun a e => by
  subst e
  exact (World.ownsRow.lt h _ rfl).1
theorem ownY_empty (w : World) (B : Nat) (hB : B ≤ w.heap.size) : OwnY (w.alloc (.cells #[] 5)) B (some ⟨w.heap.size, 0, none⟩) 0 [] :=
  World.ownsRow_lit (base := B) (e := 5) (size := 1) w #[] 0 hB (by simp [maxLen]) rfl
theorem appY_new {w : World} {ops : Array Oper} {rest : List Oper} {o : Oper} {a : Act} {Q : Exit → Act → World → Prop} (hgd : o.guard = none) (s x : Operand)
    (ho : o.op = .call { callee := .builtin .append, args := #[s, x], argTypes := #[22, 22] })
    (B : Nat) (A : Option Addr) (c n : Nat) (xs : List UInt8) (v : UInt8) (hln : xs.length = n) (hs : a.eval s = .slice A n c) (hown : OwnY w B A c xs) (hx : a.eval x = .slice (some ⟨w.heap.size, 0, none⟩) 1 1)
    (hn : n ≤ 1099511627776) (hB : B ≤ w.heap.size)
    (h : ∀ A' c' w', OwnY w' B A' c' (xs ++ [v]) → Wrote w w' A → wpList Tryz.prog ops Q rest (a.put o.dst (.slice A' (n + 1) c')) w') :
    wpList Tryz.prog ops Q (o :: rest) a (w.alloc (.cells #[cellY v] 5)) := by
  subst hln
  obtain ⟨i0, hi, hz0, hz1, hz2⟩ := info_parts u8Info
  have hA : w.grownBy (w.alloc (.cells #[cellY v] 5)) (row A) := World.grownBy_alloc w _ _
  have hown' := World.ownsRow.alloc hown (.cells #[cellY v] 5)
  refine wpList_append_own_at _ hgd s x 22 ho B 5 i0 (.int .u8 0) 1 1 Tryz.underlying22 hi hz0 hz1 hz2 rfl (by decide) _ xs.length (xs.map cellY) hs hown' ⟨w.heap.size, 0, none⟩ 1 1 [cellY v] hx rfl (cell_one_new _ _ _) (by simp [cellY, Value.oneCell']) (by simp only [maxLen]; omega) (by omega) (by simp; omega) ?_
  intro v' w' k1 k2 _ k3
  have e : (Value.slice A xs.length c).ownBlock = row A := by cases A <;> rfl
  rw [e] at k2
  have hl : (xs ++ [v]).length = xs.length + 1 := by simp
  have hm : xs.map cellY ++ [cellY v] = (xs ++ [v]).map cellY := by simp
  have hv : ∃ A' c', v' = .slice A' (xs.length + 1) c' := by
    rcases k1.2 with ⟨rfl, h0⟩ | ⟨g, cap, cur, rfl, _⟩
    · omega
    · exact ⟨_, _, rfl⟩
  obtain ⟨A', c', rfl⟩ := hv
  refine h A' c' w' ?_ (hA.trans k2)
  unfold OwnY
  rw [← hm, hl] at *
  exact k1
set_option maxRecDepth 100000 in
theorem ownY_string {w : World} {B c : Nat} {A : Option Addr} {xs : List UInt8} (h : OwnY w B A c xs) (hk : 0 < xs.length) : (convert 22 9 (.slice A xs.length c)).run Tryz.prog w = .ok (.string (bs xs)) w := by
  rcases h.2 with ⟨hv, hn⟩ | ⟨g, cap, cur, hv, hb, hh, _⟩
  · omega
  · injection hv with h1
    subst h1
    refine run_convert_bytes_back w 22 9 5 ⟨g, 0, none⟩ c xs Tryz.underlying22 Tryz.underlying5 Tryz.underlying9 fun j hj => ?_
    rw [Addr.add_lit, Nat.zero_add, World.ownsRow.cellAt h j (by omega), List.getElem?_map, List.getElem?_eq_getElem hj]; rfl
end Go.Proofs.YtgkijkenbjjnmaaGreatDoor
