import Derived.Test.YtnihnobnhihoiaaBase
import Derived.Test.YtnihnobnhihoiaaPWrap
import Derived.Deep.AppendLies
import Derived.Test.YtnihnobnhihoiaaClone
import Derived.Test.YtnihnobnhihoiaaPStep
/- Contracts of the cursor over a draw's bytes and of what draws from it: each says alone between which bounds a result lies. -/
namespace Go.Proofs.Ytnihnobnhihoiaa
open Go.RowKit
set_option linter.unusedVariables false
set_option linter.unusedSimpArgs false
/-- The slice value '.slice A n c' reads as n bytes and lies below block B. -/
def RdB (w : World) (B : Nat) (A : Option Addr) (n : Nat) : Prop :=
  0 < n → ∃ ad, A = some ad ∧ ad.block < B ∧ ∀ j, j < n → ∃ v : Int, 0 ≤ v ∧ v ≤ 255 ∧ w.cell? (ad.add j) = some (.int .u8 v)
section
variable {w w' : World} {B B' n : Nat} {A : Option Addr}
theorem RdB.keep (h : RdB w B A n) (hk : ∀ p : Addr, p.block < B → w'.cell? p = w.cell? p) : RdB w' B A n := fun h0 => by
  obtain ⟨ad, e, hb, hc⟩ := h h0
  refine ⟨ad, e, hb, fun j hj => ?_⟩
  obtain ⟨v, v1, v2, hv⟩ := hc j hj
  exact ⟨v, v1, v2, (hk _ (by rw [block_add]; exact hb)).trans hv⟩
theorem RdB.more (h : RdB w B A n) (hB : B ≤ B') : RdB w B' A n := fun h0 => by
  obtain ⟨ad, e, hb, hc⟩ := h h0
  exact ⟨ad, e, by omega, hc⟩
theorem RdB.below (h : RdB w B A n) (hb : Below B w w') : RdB w' B A n := h.keep fun _ hp => hb.cell hp
theorem RdB.past (h : RdB w w.heap.size A n) (hb : Below w.heap.size w w') : RdB w' w'.heap.size A n := (h.below hb).more hb.size
theorem RdB.at_ {k : Nat} (h : RdB w B A n) (hk : k < n) : ∃ ad, A = some ad ∧ ad.block < B ∧ ∃ v : Int, 0 ≤ v ∧ v ≤ 255 ∧ w.cell? (ad.add k) = some (.int .u8 v) := by
  obtain ⟨ad, e, hb, hc⟩ := h (by omega)
  exact ⟨ad, e, hb, hc k hk⟩
theorem RdB.grown (h : RdB w B A n) {g : Nat} (hg : w.grownBy w' (some g)) (hB : B ≤ w.heap.size) (hgB : B ≤ g) : RdB w' B A n :=
  h.keep fun p hp => World.cell?_of_block (hg.block _ (by omega) (fun e => by injection e with e; omega))
end
theorem Blk.drewN {w : World} {g : Nat} {t : TypeId} {cs : Array Value} (h : Blk w g t cs) (n : Nat) : Blk (w.drewN n) g t cs := h
/-! ### Of what there was at most block g has turned -/
theorem turn_refl (w : World) (g : Nat) : w.grownBy w (some g) := World.grownBy.refl _ _
theorem turn_drewN {a w : World} {row : Option Nat} (h : a.grownBy w row) (n : Nat) : a.grownBy (w.drewN n) row := ⟨h.os, h.tape, h.output, h.size, h.block⟩
theorem turn_alloc {a w : World} {row : Option Nat} (h : a.grownBy w row) (o : Obj) : a.grownBy (w.alloc o) row :=
  ⟨h.os, h.tape, h.output, Nat.le_trans h.size (by simp), fun i hi hne => (Below.heap_alloc w o i (Nat.lt_of_lt_of_le hi h.size)).trans (h.block i hi hne)⟩
theorem turn_set {a w : World} {g : Nat} (h : a.grownBy w (some g)) {p : Addr} (hp : p.block = g) (u : Value) : a.grownBy (w.setCell p u) (some g) :=
  ⟨h.os, h.tape, h.output, by simpa [World.setCell] using h.size, fun i hi hne => (Below.heap_setCell w p u i (by rintro rfl; exact hne (by rw [hp]))).trans (h.block i hi hne)⟩
theorem turn_below {a w : World} (h : Below a.heap.size a w) (row : Option Nat) : a.grownBy w row := ⟨h.os, h.tape, h.output, h.size, fun i hi _ => h.block i hi⟩
/-- A write into a slice that is new: nothing of what there was at first has turned. -/
theorem turn_new {a w w' : World} {g : Nat} {A : Option Addr} (h : a.grownBy w (some g)) (hw : Wrote w w' A) (hl : Lo A a.heap.size) : a.grownBy w' (some g) :=
  ⟨hw.os.trans h.os, hw.tape.trans h.tape, hw.output.trans h.output, Nat.le_trans h.size hw.size, fun i hi hne => (hw.block i (Nat.lt_of_lt_of_le hi h.size) (by
    cases A with
    | none => simp [row]
    | some a => simp [row]; have := hl a rfl; omega)).trans (h.block i hi hne)⟩
theorem turn_past {B : Nat} {a w w' : World} {g : Nat} (h : Below B a w) (hw : w.grownBy w' (some g)) (hB : B ≤ w.heap.size) (hg : B ≤ g) : Below B a w' :=
  h.grown hw hB fun k hk => by injection hk with hk; omega
theorem own_turn {w w' : World} {B c g : Nat} {A : Option Addr} {xs : List Int} (h : Own w B A c xs) (hw : w.grownBy w' (some g)) (hg : g < B) : Own w' B A c xs :=
  own_grown h hw fun a e => by have := (own_lt h a e).1; intro e'; injection e' with e'; omega
theorem own_turn_hi {w w' : World} {B c g : Nat} {A : Option Addr} {xs : List Int} (h : Own w B A c xs) (hw : w.grownBy w' (some g)) (hg : Hi A g) : Own w' B A c xs :=
  own_grown h hw fun a e => by have := hg a e; intro e'; injection e' with e'; omega
theorem blk_turn {w w' : World} {b g : Nat} {t : TypeId} {cs : Array Value} (h : Blk w b t cs) (hw : w.grownBy w' (some g)) (hg : b ≠ g) : Blk w' b t cs := h.grown hw (by simpa using hg)
/-! ### The cursor -/
theorem and255 (x : Int) : 0 ≤ bits .and .i64 x 255 ∧ bits .and .i64 x 255 ≤ 255 := by
  have h := and_mask x 8 (by omega)
  have e : (2 : Int) ^ 8 - 1 = 255 := by decide
  have e2 : (2 : Int) ^ 8 = 256 := by decide
  rw [e, e2] at h
  omega
theorem tmod_lt (x n : Int) (hx : 0 ≤ x) (hn : 1 ≤ n) : 0 ≤ x % n ∧ x % n ≤ n - 1 := by
  have h1 := Int.emod_nonneg x (show n ≠ 0 by omega)
  have h2 := Int.emod_lt_of_pos x (show 0 < n by omega)
  omega
end Go.Proofs.Ytnihnobnhihoiaa

/- Contracts of the draws: cursor at first, bytes made anew, sequences, accumulators and what belongs to them. -/
namespace Go.Proofs.Ytnihnobnhihoiaa
open Go.RowKit
set_option linter.unusedVariables false
set_option linter.unusedSimpArgs false
end Go.Proofs.Ytnihnobnhihoiaa

/- Contracts of the bytes made anew, and of what is drawn for an accumulator. -/
namespace Go.Proofs.Ytnihnobnhihoiaa
open Go.RowKit
set_option linter.unusedVariables false
set_option linter.unusedSimpArgs false
def OwnB (w : World) (B : Nat) (A : Option Addr) (c n : Nat) : Prop := ∃ vs, w.ownsRow B 5 1 (.slice A n c) n vs ∧ ∀ u ∈ vs, ∃ v : Int, 0 ≤ v ∧ v ≤ 255 ∧ u = .int .u8 v
theorem ownB_rd {w : World} {B c n : Nat} {A : Option Addr} (h : OwnB w B A c n) : RdB w w.heap.size A n := fun h0 => by
  obtain ⟨vs, h1, h2⟩ := h
  have hl : vs.length = n := by have := h1.1; omega
  rcases h1.2 with ⟨hv, hn⟩ | ⟨g, cap, cur, hv, hb, hh, _⟩
  · omega
  · injection hv with e1 e2 e3
    subst e1
    refine ⟨_, rfl, (Array.getElem?_eq_some_iff.1 hh).1, fun j hj => ?_⟩
    obtain ⟨v, v1, v2, e⟩ := h2 vs[j] (List.getElem_mem (by omega))
    exact ⟨v, v1, v2, World.ownsRow.cells h1 rfl j _ (by rw [List.getElem?_eq_getElem (by omega), e])⟩
theorem ownB_lo {w : World} {B c n : Nat} {A : Option Addr} (h : OwnB w B A c n) : Lo A B := fun a e => by
  obtain ⟨vs, h1, _⟩ := h
  subst e
  exact (World.ownsRow.lt h1 _ rfl).1
theorem byteInfo : (Try.prog.info? 5).map (fun i => (i.zero, i.size, i.bytes)) = some (some (.int .u8 0), 1, 1) := by kernel_rfl
theorem ownB_one (w : World) (B : Nat) (x : Int) (hB : B ≤ w.heap.size) (x1 : 0 ≤ x) (x2 : x ≤ 255) : OwnB (w.alloc (.cells #[.int .u8 x] 5)) B (some ⟨w.heap.size, 0, none⟩) 1 1 :=
  ⟨[.int .u8 x], World.ownsRow_lit (base := B) (e := 5) (size := 1) w #[.int .u8 x] 1 hB (by simp [maxLen]) rfl, fun u hu => ⟨x, x1, x2, by simpa using hu⟩⟩
theorem appB_new {w : World} {ops : Array Oper} {rest : List Oper} {o : Oper} {a : Act} {Q : Exit → Act → World → Prop} (hgd : o.guard = none) (s x : Operand)
    (ho : o.op = .call { callee := .builtin .append, args := #[s, x], argTypes := #[47, 47] })
    (B : Nat) (A : Option Addr) (c n : Nat) (v : Int) (hs : a.eval s = .slice A n c) (hown : OwnB w B A c n) (hx : a.eval x = .slice (some ⟨w.heap.size, 0, none⟩) 1 1)
    (hn : n ≤ 1099511627776) (hB : B ≤ w.heap.size) (v1 : 0 ≤ v) (v2 : v ≤ 255)
    (h : ∀ A' c' w', OwnB w' B A' c' (n + 1) → Wrote w w' A → wpList Try.prog ops Q rest (a.put o.dst (.slice A' (n + 1) c')) w') :
    wpList Try.prog ops Q (o :: rest) a (w.alloc (.cells #[.int .u8 v] 5)) := by
  obtain ⟨vs, h1, hb⟩ := hown
  obtain ⟨i0, hi, hz0, hz1, hz2⟩ := info_parts byteInfo
  have hA : w.grownBy (w.alloc (.cells #[.int .u8 v] 5)) (row A) := World.grownBy_alloc w _ _
  have hown' := World.ownsRow.alloc h1 (.cells #[.int .u8 v] 5)
  refine wpList_append_own_at _ hgd s x 47 ho B 5 i0 (.int .u8 0) 1 1 Try.underlying47 hi hz0 hz1 hz2 rfl (by decide) _ n vs hs hown' ⟨w.heap.size, 0, none⟩ 1 1 [.int .u8 v] hx rfl (cell_one_new _ _ _) (by simp [Value.oneCell']) (by simp only [maxLen]; omega) (by omega) (by simp; omega) ?_
  intro v' w' k1 k2 _ k3
  have e : (Value.slice A n c).ownBlock = row A := by cases A <;> rfl
  rw [e] at k2
  have hv : ∃ A' c', v' = .slice A' (n + 1) c' := by
    rcases k1.2 with ⟨rfl, h0⟩ | ⟨g, cap, cur, rfl, _⟩
    · omega
    · exact ⟨_, _, rfl⟩
  obtain ⟨A', c', rfl⟩ := hv
  refine h A' c' w' ⟨_, k1, fun u hu => ?_⟩ (hA.trans k2)
  rw [List.mem_append] at hu
  rcases hu with hu | hu
  · exact hb u hu
  · exact ⟨v, v1, v2, by simpa using hu⟩
def RetBy (w : World) (e : Ending) (w' : World) : Prop := ∃ A c n, e = .returned (.slice A n c) ∧ n ≤ 601 ∧ RdB w' w'.heap.size A n ∧ Below w.heap.size w w'
def Small (most size : Int) (xs : List Int) : Prop := xs.length ≤ most ∧ ∀ x ∈ xs, -size ≤ x ∧ x ≤ size
theorem small_snoc {most size : Int} {xs : List Int} {x : Int} (h : Small (most - 1) size xs) (h1 : -size ≤ x) (h2 : x ≤ size) : Small most size (xs ++ [x]) := by
  refine ⟨?_, fun y hy => ?_⟩
  · have := h.1
    rw [List.length_append]
    simp
    omega
  · rw [List.mem_append] at hy
    rcases hy with hy | hy
    · exact h.2 y hy
    · simp at hy; subst hy; exact ⟨h1, h2⟩
theorem small_more {a b size : Int} {xs : List Int} (h : Small a size xs) (hab : a ≤ b) : Small b size xs := ⟨by have := h.1; omega, h.2⟩
end Go.Proofs.Ytnihnobnhihoiaa

/- Contracts of MakeSequence, MakeAccumulator, MakeRests and MakeInputs. -/
namespace Go.Proofs.Ytnihnobnhihoiaa
open Go.RowKit
set_option linter.unusedVariables false
set_option linter.unusedSimpArgs false
def RetP (P : List Int → Prop) (w : World) (e : Ending) (w' : World) : Prop := ∃ A c xs, e = .returned (.slice A (xs : List Int).length c) ∧ P xs ∧ Own w' w.heap.size A c xs ∧ Below w.heap.size w w'
def RetAcc (w : World) (e : Ending) (w' : World) : Prop := ∃ (o : Nat) (m : Int), e = .returned (.agg #[.int .i64 o, .int .i64 m]) ∧ 1 ≤ o ∧ o ≤ 4 ∧ 2 ≤ m ∧ m ≤ 61 ∧ Below w.heap.size w w'
theorem rests_snoc {m : Int} {xs : List Int} {x : Int} (h : Rests m xs) (h1 : 0 ≤ x) (h2 : x < m) : Rests m (xs ++ [x]) := fun y hy => by
  rw [List.mem_append] at hy
  rcases hy with hy | hy
  · exact h y hy
  · simp at hy; subst hy; exact ⟨h1, h2⟩
end Go.Proofs.Ytnihnobnhihoiaa
