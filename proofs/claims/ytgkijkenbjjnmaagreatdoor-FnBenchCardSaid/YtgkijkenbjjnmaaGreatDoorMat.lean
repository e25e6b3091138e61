import Derived.Test.YtgkijkenbjjnmaaGreatDoorBase
import Derived.Test.YtgkijkenbjjnmaaGreatDoorClone
/- Words for slices of slices of ints. -/
namespace Go.Proofs.YtgkijkenbjjnmaaGreatDoor
open Go.RowKit
set_option linter.unusedVariables false
set_option linter.unusedSimpArgs false
/-- A row: where it lies, its capacity, what it reads as. -/
structure Rw where
  A : Option Addr
  c : Nat
  xs : List Int
def Rw.val (r : Rw) : Value := .slice r.A r.xs.length r.c
/-- The slice '.slice A rs.length c' reads as the rows rs, and they as their lists. -/
def RdM (w : World) (B : Nat) (A : Option Addr) (rs : List Rw) : Prop :=
  (0 < rs.length → ∃ ad, A = some ad ∧ ad.block < B ∧ ∀ j r, rs[j]? = some r → w.cell? (ad.add j) = some r.val) ∧ ∀ r ∈ rs, Rd w B r.A r.xs
def lists (rs : List Rw) : List (List Int) := rs.map (·.xs)
theorem lists_length (rs : List Rw) : (lists rs).length = rs.length := by simp [lists]
theorem lists_getD {rs : List Rw} {j : Nat} (h : j < rs.length) : (lists rs).getD j [] = rs[j].xs := by simp [lists, h]
theorem lists_all (rs : List Rw) (p : List Int → Bool) : (lists rs).all p = rs.all fun r => p r.xs := by simp [lists, List.all_map, Function.comp_def]
section
variable {w w' : World} {B B' : Nat} {A : Option Addr} {rs : List Rw}
theorem RdM.keep (h : RdM w B A rs) (hk : ∀ p : Addr, p.block < B → w'.cell? p = w.cell? p) : RdM w' B A rs :=
  ⟨fun h0 => by
    obtain ⟨ad, e, hb, hc⟩ := h.1 h0
    exact ⟨ad, e, hb, fun j r hj => (hk _ (by rw [block_add]; exact hb)).trans (hc j r hj)⟩, fun r hr => (h.2 r hr).keep hk⟩
theorem RdM.more (h : RdM w B A rs) (hB : B ≤ B') : RdM w B' A rs :=
  ⟨fun h0 => by
    obtain ⟨ad, e, hb, hc⟩ := h.1 h0
    exact ⟨ad, e, by omega, hc⟩, fun r hr => (h.2 r hr).more hB⟩
theorem RdM.below (h : RdM w B A rs) (hb : Below B w w') : RdM w' B A rs := h.keep fun _ hp => hb.cell hp
theorem RdM.past (h : RdM w w.heap.size A rs) (hb : Below w.heap.size w w') : RdM w' w'.heap.size A rs := (h.below hb).more hb.size
theorem RdM.at_ {k : Nat} (h : RdM w B A rs) (hk : k < rs.length) : ∃ ad, A = some ad ∧ ad.block < B ∧ ∀ j r, rs[j]? = some r → w.cell? (ad.add j) = some r.val := h.1 (by omega)
theorem RdM.row (h : RdM w B A rs) {k : Nat} (hk : k < rs.length) : Rd w B rs[k].A rs[k].xs := h.2 _ (List.getElem_mem hk)
end
end Go.Proofs.YtgkijkenbjjnmaaGreatDoor

/- Plain laws of one step of an accumulator. No program. -/
namespace Go.Proofs.YtgkijkenbjjnmaaGreatDoor
open Go.RowKit
set_option linter.unusedVariables false
set_option linter.unusedSimpArgs false
/-- What comes into stage k. -/
def sx (m : Int) (s : List Int) (x : Int) : Nat → Int
  | 0 => x
  | k + 1 => (sx m s x k + s.getD k 0) % m
def stepN (m : Int) (s : List Int) (x : Int) : List Int := (List.range s.length).map fun k => sx m s x (k + 1)
def stepC (m : Int) (s : List Int) (x : Int) : List Int := (List.range s.length).map fun k => (sx m s x k + s.getD k 0) / m
theorem stepN_length (m : Int) (s : List Int) (x : Int) : (stepN m s x).length = s.length := by simp [stepN]
theorem stepC_length (m : Int) (s : List Int) (x : Int) : (stepC m s x).length = s.length := by simp [stepC]
theorem stepN_at {m : Int} {s : List Int} {x : Int} {k : Nat} (h : k < (stepN m s x).length) : (stepN m s x)[k] = sx m s x (k + 1) := by simp [stepN]
theorem stepC_at {m : Int} {s : List Int} {x : Int} {k : Nat} (h : k < (stepC m s x).length) : (stepC m s x)[k] = (sx m s x k + s.getD k 0) / m := by simp [stepC]
def Rests (m : Int) (s : List Int) : Prop := ∀ v ∈ s, 0 ≤ v ∧ v < m
theorem rests_getD {m : Int} {s : List Int} (hm : 2 ≤ m) (h : Rests m s) (k : Nat) : 0 ≤ s.getD k 0 ∧ s.getD k 0 < m := by
  by_cases hk : k < s.length
  · rw [getD_at hk]; exact h _ (List.getElem_mem hk)
  · rw [List.getD, List.getElem?_eq_none (by omega)]; simp; omega
theorem sx_bd {m : Int} {s : List Int} {x : Int} (hm : 2 ≤ m) (h : Rests m s) (hx : 0 ≤ x ∧ x < m) : ∀ k, 0 ≤ sx m s x k ∧ sx m s x k < m
  | 0 => hx
  | k + 1 => ⟨Int.emod_nonneg _ (by omega), Int.emod_lt_of_pos _ (by omega)⟩
theorem stepN_rests {m : Int} {s : List Int} {x : Int} (hm : 2 ≤ m) (h : Rests m s) (hx : 0 ≤ x ∧ x < m) : Rests m (stepN m s x) := by
  intro v hv
  simp only [stepN, List.mem_map] at hv
  obtain ⟨k, _, rfl⟩ := hv
  exact sx_bd hm h hx (k + 1)
/-- Two numbers below m: their sum's rest and quotient. -/
theorem sum_lo {m a b : Int} (h : 0 ≤ a + b) (h' : a + b < m) : (a + b) % m = a + b ∧ (a + b) / m = 0 := ⟨Int.emod_eq_of_lt h h', Int.ediv_eq_zero_of_lt h h'⟩
theorem sum_hi {m a b : Int} (hm : 0 < m) (h : m ≤ a + b) (h' : a + b < m + m) : (a + b) % m = a + b - m ∧ (a + b) / m = 1 := by
  have e : a + b = (a + b - m) + m := by omega
  constructor
  · rw [e, Int.add_emod_right, Int.emod_eq_of_lt (by omega) (by omega)]; omega
  · rw [e, Int.add_ediv_of_dvd_right (Int.dvd_refl m), Int.ediv_eq_zero_of_lt (by omega) (by omega), Int.ediv_self (by omega)]; rfl
theorem carry_bit {m a b : Int} (hm : 2 ≤ m) (ha : 0 ≤ a ∧ a < m) (hb : 0 ≤ b ∧ b < m) : 0 ≤ (a + b) / m ∧ (a + b) / m ≤ 1 := by
  rcases Int.lt_or_le (a + b) m with h | h
  · rw [(sum_lo (by omega) h).2]; omega
  · rw [(sum_hi (by omega) h (by omega)).2]; omega
theorem stepC_bits {m : Int} {s : List Int} {x : Int} (hm : 2 ≤ m) (h : Rests m s) (hx : 0 ≤ x ∧ x < m) : ∀ v ∈ stepC m s x, 0 ≤ v ∧ v ≤ 1 := by
  intro v hv
  simp only [stepC, List.mem_map] at hv
  obtain ⟨k, _, rfl⟩ := hv
  exact carry_bit hm (sx_bd hm h hx k) (rests_getD hm h k)
def stepOk (o m : Int) (s : List Int) (x : Int) : Bool := restsOk o m s && restB m x
structure LL where
  c : List Int
  n : List Int
  ok : Bool
def stepA (o m : Int) (s : List Int) (x : Int) : LL := if stepOk o m s x then ⟨stepC m s x, stepN m s x, true⟩ else ⟨[], [], false⟩
theorem stepA_yes {o m : Int} {s : List Int} {x : Int} (h : stepOk o m s x = true) : stepA o m s x = ⟨stepC m s x, stepN m s x, true⟩ := by simp [stepA, h]
theorem stepA_no {o m : Int} {s : List Int} {x : Int} (h : stepOk o m s x = false) : stepA o m s x = ⟨[], [], false⟩ := by simp [stepA, h]
theorem stepOk_parts {o m : Int} {s : List Int} {x : Int} (h : stepOk o m s x = true) : restsOk o m s = true ∧ (0 ≤ x ∧ x < m) := by
  simp only [stepOk, Bool.and_eq_true] at h
  refine ⟨h.1, ?_⟩
  simpa [restB] using h.2
end Go.Proofs.YtgkijkenbjjnmaaGreatDoor

/- Contracts of l6Step and of the two StepAccumulator. -/
namespace Go.Proofs.YtgkijkenbjjnmaaGreatDoor
open Go.RowKit
set_option linter.unusedVariables false
set_option linter.unusedSimpArgs false
theorem apart_moved {A A' A1 : Option Addr} {n : Nat} (h : Apart A A') (hm : Moved A A1 n) (hh : Hi A' n) : Apart A1 A' := by
  rcases hm with e | hl
  · intro a a' ea ea'
    subst ea
    cases A with
    | none => simp [row] at e
    | some b =>
      simp [row] at e
      rw [e]
      exact h b a' rfl ea'
  · exact apart_gt hl hh (Nat.le_refl _)
def RetLLB (w : World) (x : LL) (e : Ending) (w' : World) : Prop :=
  ∃ A c A' c', e = .returned (.tuple #[.slice A x.c.length c, .slice A' x.n.length c', .bool x.ok]) ∧ Own w' w.heap.size A c x.c ∧ Own w' w.heap.size A' c' x.n ∧ Apart A A' ∧ Below w.heap.size w w'
def RetLL (w : World) (xs ys : List Int) (e : Ending) (w' : World) : Prop :=
  ∃ A c A' c', e = .returned (.tuple #[.slice A xs.length c, .slice A' ys.length c']) ∧ Own w' w.heap.size A c xs ∧ Own w' w.heap.size A' c' ys ∧ Apart A A' ∧ Below w.heap.size w w'
theorem two_empty (W : World) : Own ((W.alloc (.cells #[] 3)).alloc (.cells #[] 3)) W.heap.size (some ⟨W.heap.size, 0, none⟩) 0 [] ∧ Own ((W.alloc (.cells #[] 3)).alloc (.cells #[] 3)) W.heap.size (some ⟨W.heap.size + 1, 0, none⟩) 0 [] ∧ Below W.heap.size W ((W.alloc (.cells #[] 3)).alloc (.cells #[] 3)) := by
  have h1 := own_empty W W.heap.size (Nat.le_refl _)
  have h2 := own_empty (W.alloc (.cells #[] 3)) W.heap.size (by simp)
  simp only [World.size_alloc] at h2
  exact ⟨own_past h1 ((Below.refl _ _).alloc (Nat.le_refl _) _), h2, ((Below.refl _ _).alloc (Nat.le_refl _) _).alloc (by simp) _⟩
theorem apart_two (a b : Nat) (h : a ≠ b) : Apart (some ⟨a, 0, none⟩) (some ⟨b, 0, none⟩) := fun x y hx hy => by
  injection hx with hx; injection hy with hy; subst hx; subst hy; exact h
theorem stepA_len (o m : Int) (s : List Int) (x : Int) : (stepA o m s x).c.length ≤ 6 ∧ (stepA o m s x).n.length ≤ 6 := by
  unfold stepA
  split
  · rename_i h
    obtain ⟨⟨h1, _⟩, h2, _⟩ := restsOk_parts (stepOk_parts h).1
    simp only [stepC_length, stepN_length]
    omega
  · simp
end Go.Proofs.YtgkijkenbjjnmaaGreatDoor

/- Words for slices of slices of ints that the call owns; a world in which at most a span of blocks has turned. -/
namespace Go.Proofs.YtgkijkenbjjnmaaGreatDoor
open Go.RowKit
set_option linter.unusedVariables false
set_option linter.unusedSimpArgs false
def vals (rs : List Rw) : List Value := rs.map Rw.val
/-- The outer row is owned, every row is owned, all lie apart. -/
structure OwnM (w : World) (B : Nat) (A : Option Addr) (c : Nat) (rs : List Rw) : Prop where
  out : w.ownsRow B 25 1 (.slice A rs.length c) rs.length (vals rs)
  row : ∀ r ∈ rs, Own w B r.A r.c r.xs
  apart : ∀ i j (hi : i < rs.length) (hj : j < rs.length), i ≠ j → Apart rs[i].A rs[j].A
  off : ∀ r ∈ rs, Apart A r.A
/-- The world has grown; of what there was at most the blocks from lo up to hi have turned. -/
structure Span (w w' : World) (lo hi : Nat) : Prop where
  os : w'.os = w.os
  tape : w'.tape = w.tape
  output : w'.output = w.output
  size : w.heap.size ≤ w'.heap.size
  block : ∀ k, k < w.heap.size → (k < lo ∨ hi ≤ k) → w'.heap[k]? = w.heap[k]?
section
variable {w w' w2 : World} {B B' c lo hi : Nat} {A A' : Option Addr} {rs : List Rw} {xs : List Int}
theorem Span.refl (w : World) (lo hi : Nat) : Span w w lo hi := ⟨rfl, rfl, rfl, Nat.le_refl _, fun _ _ _ => rfl⟩
theorem Span.trans (h : Span w w' lo hi) (k : Span w' w2 lo hi) : Span w w2 lo hi :=
  ⟨k.os.trans h.os, k.tape.trans h.tape, k.output.trans h.output, Nat.le_trans h.size k.size, fun i hi' ho => (k.block i (Nat.lt_of_lt_of_le hi' h.size) ho).trans (h.block i hi' ho)⟩
theorem Span.of_wrote (h : Wrote w w' A) (hl : Lo A lo) (hh : Hi A hi) : Span w w' lo hi :=
  ⟨h.os, h.tape, h.output, h.size, fun k hk ho => h.block k hk fun e => by
    cases A with
    | none => simp [row] at e
    | some a =>
      simp [row] at e
      have := hl a rfl
      have := hh a rfl
      omega⟩
theorem Span.of_below (h : Below w.heap.size w w') (lo hi : Nat) : Span w w' lo hi := ⟨h.os, h.tape, h.output, h.size, fun k hk _ => h.block k hk⟩
theorem own_block (h : Own w B A c xs) (hk : ∀ a, A = some a → w'.heap[a.block]? = w.heap[a.block]?) : Own w' B A c xs := by
  obtain ⟨h1, h2⟩ := h
  refine ⟨h1, ?_⟩
  rcases h2 with h2 | ⟨g, cap, cur, hv, hg, hh, r⟩
  · exact Or.inl h2
  · injection hv with e1 e2 e3
    exact Or.inr ⟨g, cap, cur, by rw [e1, e2, e3], hg, (hk _ e1).trans hh, r⟩
theorem out_block {n : Nat} {vs : List Value} {t : TypeId} (h : w.ownsRow B t 1 (.slice A n c) n vs) (hk : ∀ a, A = some a → w'.heap[a.block]? = w.heap[a.block]?) : w'.ownsRow B t 1 (.slice A n c) n vs := by
  obtain ⟨h1, h2⟩ := h
  refine ⟨h1, ?_⟩
  rcases h2 with h2 | ⟨g, cap, cur, hv, hg, hh, r⟩
  · exact Or.inl h2
  · injection hv with e1 e2 e3
    exact Or.inr ⟨g, cap, cur, by rw [e1, e2, e3], hg, (hk _ e1).trans hh, r⟩
theorem out_lt {n : Nat} {vs : List Value} {t : TypeId} (h : w.ownsRow B t 1 (.slice A n c) n vs) : ∀ a, A = some a → B ≤ a.block ∧ a.block < w.heap.size := fun a e => by
  subst e
  exact World.ownsRow.lt h _ rfl
theorem own_span (h : Own w B A c xs) (hs : Span w w' lo hi) (ha : Hi A lo ∨ Lo A hi) : Own w' B A c xs :=
  own_block h fun a e => hs.block _ (own_lt h a e).2 (ha.elim (fun h => .inl (h a e)) fun h => .inr (h a e))
theorem below_span {w0 : World} (h : Below B w0 w) (hs : Span w w' lo hi) (hB : B ≤ lo) (hw : B ≤ w.heap.size) : Below B w0 w' :=
  ⟨hs.os.trans h.os, hs.tape.trans h.tape, hs.output.trans h.output, Nat.le_trans h.size hs.size, fun k hk => (hs.block k (by omega) (.inl (by omega))).trans (h.block k hk)⟩
theorem OwnM.los (h : OwnM w B A c rs) : Lo A B ∧ ∀ r ∈ rs, Lo r.A B := ⟨fun a e => (out_lt h.out a e).1, fun r hr => own_lo (h.row r hr)⟩
theorem OwnM.his (h : OwnM w B A c rs) : Hi A w.heap.size ∧ ∀ r ∈ rs, Hi r.A w.heap.size := ⟨fun a e => (out_lt h.out a e).2, fun r hr => own_hi (h.row r hr)⟩
theorem OwnM.kept (h : OwnM w B A c rs) (ho : ∀ a, A = some a → w'.heap[a.block]? = w.heap[a.block]?) (hr : ∀ r ∈ rs, ∀ a, r.A = some a → w'.heap[a.block]? = w.heap[a.block]?) : OwnM w' B A c rs :=
  ⟨out_block h.out ho, fun r m => own_block (h.row r m) (hr r m), h.apart, h.off⟩
theorem OwnM.past (h : OwnM w B A c rs) (hb : Below w.heap.size w w') : OwnM w' B A c rs :=
  h.kept (fun a e => hb.block _ (h.his.1 a e)) fun r m a e => hb.block _ (h.his.2 r m a e)
theorem OwnM.more (h : OwnM w B A c rs) (hB : B' ≤ B) : OwnM w B' A c rs := by
  refine ⟨?_, fun r m => own_mono (h.row r m) hB, h.apart, h.off⟩
  obtain ⟨h1, h2⟩ := h.out
  refine ⟨h1, ?_⟩
  rcases h2 with h2 | ⟨g, cap, cur, hv, hg, r⟩
  · exact Or.inl h2
  · exact Or.inr ⟨g, cap, cur, hv, by omega, r⟩
theorem OwnM.wrote (h : OwnM w B A c rs) (hw : Wrote w w' A') (ha : Apart A A') (hr : ∀ r ∈ rs, Apart r.A A') : OwnM w' B A c rs := by
  have key : ∀ D : Option Addr, Hi D w.heap.size → Apart D A' → ∀ a, D = some a → w'.heap[a.block]? = w.heap[a.block]? := fun D hD hap a e =>
    hw.block _ (hD a e) (by
      cases A' with
      | none =>
        intro e'
        simp [Go.Proofs.YtgkijkenbjjnmaaGreatDoor.row] at e'
      | some a' => exact apart_row hap a e (by simp))
  exact h.kept (key A h.his.1 ha) fun r m => key r.A (h.his.2 r m) (hr r m)
theorem OwnM.span (h : OwnM w B A c rs) (hs : Span w w' lo hi) (ha : w.heap.size ≤ lo ∨ hi ≤ B) : OwnM w' B A c rs := by
  have key : ∀ D : Option Addr, Lo D B → Hi D w.heap.size → ∀ a, D = some a → w'.heap[a.block]? = w.heap[a.block]? := fun D hl hD a e => by
    have := hl a e
    have := hD a e
    exact hs.block _ (hD a e) (by omega)
  exact h.kept (key A h.los.1 h.his.1) fun r m => key r.A (h.los.2 r m) (h.his.2 r m)
theorem OwnM.rdm (h : OwnM w B A c rs) : RdM w w.heap.size A rs := by
  refine ⟨fun h0 => ?_, fun r m => own_rd (h.row r m)⟩
  rcases h.out.2 with ⟨hv, hn⟩ | ⟨g, cap, cur, hv, hb, hh, _⟩
  · omega
  · have hv' := hv
    injection hv with h1 h2 h3
    subst h1
    exact ⟨_, rfl, (Array.getElem?_eq_some_iff.1 hh).1, fun j r hj => World.ownsRow.cells h.out rfl j _ (by simp [vals, hj])⟩
theorem OwnM.head (h : OwnM w B A c rs) (h0 : 0 < rs.length) : ∃ g, A = some ⟨g, 0, none⟩ ∧ B ≤ g ∧ g < w.heap.size := by
  rcases h.out.2 with ⟨hv, hn⟩ | ⟨g, cap, cur, hv, hb, hh, _⟩
  · omega
  · injection hv with h1
    exact ⟨g, h1, hb, (Array.getElem?_eq_some_iff.1 hh).1⟩
theorem OwnM.cell {g k : Nat} (h : OwnM w B (some ⟨g, 0, none⟩) c rs) (hk : k < rs.length) : w.cell? ⟨g, k, none⟩ = some rs[k].val :=
  (World.ownsRow.cellAt h.out k (by omega)).trans (by simp [vals, hk])
theorem OwnM.frozen {g : Nat} (h : OwnM w B (some ⟨g, 0, none⟩) c rs) (k : Nat) : w.frozen? ⟨g, k, none⟩ = false := World.ownsRow.frozenAt h.out k
/-- A row is laid anew in the outer row. -/
theorem OwnM.set {g k : Nat} (h : OwnM w B (some ⟨g, 0, none⟩) c rs) (hk : k < rs.length) (r : Rw) (hr : Own w B r.A r.c r.xs) (hg : Apart (some ⟨g, 0, none⟩) r.A) (ha : ∀ j (hj : j < rs.length), j ≠ k → Apart rs[j].A r.A) :
    OwnM (w.setCell ⟨g, k, none⟩ r.val) B (some ⟨g, 0, none⟩) c (rs.set k r) := by
  have hst := World.ownsRow.stored h.out k r.val
  have keep : ∀ D : Option Addr, Hi D w.heap.size → Apart (some ⟨g, 0, none⟩) D → ∀ a, D = some a → (w.setCell ⟨g, k, none⟩ r.val).heap[a.block]? = w.heap[a.block]? := fun D hD hap a e =>
    hst.2.block _ (hD a e) (by
      have := hap _ a rfl e
      simp
      exact fun e => this e.symm)
  refine ⟨?_, ?_, ?_, ?_⟩
  · have e : (vals rs).set k r.val = vals (rs.set k r) := by simp [vals, List.map_set]
    rw [← e, List.length_set]
    exact hst.1
  · intro q hq
    rcases List.mem_or_eq_of_mem_set hq with hq | rfl
    · exact own_block (h.row q hq) (keep q.A (h.his.2 q hq) (h.off q hq))
    · exact own_block hr (keep q.A (own_hi hr) hg)
  · intro i j hi hj hij
    have hi' : i < rs.length := by simpa using hi
    have hj' : j < rs.length := by simpa using hj
    by_cases h1 : i = k
    · subst h1
      rw [List.getElem_set_self, List.getElem_set_ne (by omega)]
      exact apart_symm (ha j hj' (by omega))
    · by_cases h2 : j = k
      · subst h2
        rw [List.getElem_set_self, List.getElem_set_ne (by omega)]
        exact ha i hi' h1
      · rw [List.getElem_set_ne (by omega), List.getElem_set_ne (by omega)]
        exact h.apart i j hi' hj' hij
  · intro q hq
    rcases List.mem_or_eq_of_mem_set hq with hq | rfl
    · exact h.off q hq
    · exact hg
end
def nilRw : Rw := ⟨none, 0, []⟩
theorem ownM_made (w : World) (n B : Nat) (hB : B ≤ w.heap.size) (hn : n ≤ maxLen) : OwnM (w.alloc (.cells (madeCells #[.slice none 0 0] n) 25)) B (some ⟨w.heap.size, 0, none⟩) n (List.replicate n nilRw) := by
  refine ⟨?_, fun r hr => ?_, fun i j hi hj _ => ?_, fun r hr => ?_⟩
  · have := World.ownsRow_lit (base := B) (e := 25) (size := 1) w (madeCells #[.slice none 0 0] n) n hB hn (by simp [size_madeCells])
    rw [List.length_replicate]
    have e : vals (List.replicate n nilRw) = (madeCells #[.slice none 0 0] n).toList := by rw [toList_madeCells_one]; simp [vals, nilRw, Rw.val]
    rw [e]
    exact this
  · obtain rfl := List.eq_of_mem_replicate hr
    exact own_nil _ _
  · intro a a' e
    simp [nilRw] at e
  · obtain rfl := List.eq_of_mem_replicate hr
    intro a a' _ e
    simp [nilRw] at e
theorem rowInfo : (Tryz.prog.info? 25).map (fun i => (i.zero, i.size, i.bytes)) = some (some (.slice none 0 0), 1, 24) := by kernel_rfl
end Go.Proofs.YtgkijkenbjjnmaaGreatDoor

/- Contracts of the laws' helpers over slices of slices of ints. -/
namespace Go.Proofs.YtgkijkenbjjnmaaGreatDoor
open Go.RowKit
set_option linter.unusedVariables false
set_option linter.unusedSimpArgs false
def tot : List (List Int) → Nat
  | [] => 0
  | x :: xs => x.length + tot xs
theorem tot_append (xs ys : List (List Int)) : tot (xs ++ ys) = tot xs + tot ys := by
  induction xs with
  | nil => simp [tot]
  | cons x xs ih => simp [tot, ih]; omega
theorem tot_take {rs : List Rw} {k : Nat} (h : k < rs.length) : tot ((lists rs).take (k + 1)) = tot ((lists rs).take k) + rs[k].xs.length := by
  have h' : k < (lists rs).length := by rw [lists_length]; exact h
  rw [List.take_succ_eq_append_getElem h', tot_append]
  simp [tot, lists]
theorem tot_take_all (rs : List Rw) : tot ((lists rs).take rs.length) = tot (lists rs) := by rw [List.take_of_length_le (by rw [lists_length]; omega)]
theorem tot_mem {rs : List Rw} : ∀ r ∈ rs, r.xs.length ≤ tot (lists rs) := by
  induction rs with
  | nil => intro r h; cases h
  | cons q rs ih =>
    intro r h
    simp only [lists, List.map_cons, tot]
    rcases List.mem_cons.1 h with rfl | h
    · omega
    · have := ih r h
      simp only [lists] at this
      omega
theorem szIntS_any (A : Option Addr) (c n : Nat) (k : Int) (w : World) (hn : n ≤ 9223372036854775807) (k1 : 0 ≤ k) (k2 : k ≤ 1048576) :
    Calls Tryz.prog 72 #[.slice A n c, .int .i64 k] w fun e w' => (∃ v : Int, e = .returned (.int .i64 v) ∧ ((v = -1 ∧ k < n) ∨ (v = k - n ∧ 0 ≤ v))) ∧ w = w' := by
  by_cases h : k < n
  · have h' : k - n < 0 := by omega
    go_enter Tryz.func72, Tryz.ntmps72
    go_wp2
    go_ret
    exact ⟨⟨-1, rfl, .inl ⟨rfl, h⟩⟩, rfl⟩
  · have h' : ¬ k - n < 0 := by omega
    go_enter Tryz.func72, Tryz.ntmps72
    go_wp2
    go_ret
    exact ⟨⟨k - n, by go_num, .inr ⟨rfl, by omega⟩⟩, rfl⟩
def RetM (w : World) (xss : List (List Int)) (e : Ending) (w' : World) : Prop := ∃ A c rs, e = .returned (.slice A (rs : List Rw).length c) ∧ lists rs = xss ∧ OwnM w' w.heap.size A c rs ∧ Below w.heap.size w w'
theorem lists_set (rs : List Rw) (k : Nat) (r : Rw) : lists (rs.set k r) = (lists rs).set k r.xs := by simp [lists, List.map_set]
theorem lists_at {rs : List Rw} {k : Nat} (h : k < rs.length) : (lists rs)[k]'(by rw [lists_length]; exact h) = rs[k].xs := by simp [lists]
theorem take_set' {α : Type} (xs ys : List α) (k : Nat) (hk : k < ys.length) (h : ys.take k = xs.take k) (hx : k < xs.length) : (ys.set k xs[k]).take (k + 1) = xs.take (k + 1) := by
  rw [List.take_succ_eq_append_getElem hx, List.take_succ_eq_append_getElem (by simpa using hk), List.getElem_set_self, List.take_set_of_le (by omega), h]
set_option maxHeartbeats 400000 in
theorem eqIntS_draws (A A' : Option Addr) (c c' n : Nat) (xs ys : List Int) (w : World) (hx : Rd w w.heap.size A xs) (hy : Rd w w.heap.size A' ys) (he : xs = ys) (hn : xs.length ≤ 9223372036854775807) :
    Calls Tryz.prog 80 #[.slice A xs.length c, .slice A' ys.length c'] w fun e w' => e = .returned (.bool true) ∧ ∃ m, w' = w.drewN m := by
  subst he
  have hd : (((xs.length : Nat) : Int) != ((xs.length : Nat) : Int)) = false := by simp
  go_enter Tryz.func80, Tryz.ntmps80
  go_wp2
  go_loopw [5] (fun i wr => ∃ k : Nat, k ≤ xs.length ∧ i = .int .i64 k ∧ Hid (∃ m, wr = w.drewN m)) (fun i _ => xs.length - (intOf i).toNat)
  case atStart => exact ⟨0, by omega, rfl, 0, rfl⟩
  case round =>
    obtain ⟨k, hk, rfl, HD⟩ := hrel
    have hd' : ∀ p, wr.cell? p = w.cell? p := by obtain ⟨m, hm⟩ := HD.out; subst hm; exact fun _ => rfl
    by_cases hlt : k < xs.length
    · obtain ⟨ad, rfl, hbl, hcell⟩ := hx.at_ hlt
      obtain ⟨ad', rfl, hbl', hcell'⟩ := hy.at_ (k := k) (by omega)
      have hc1 : wr.cell? (ad.add k) = some (.int .i64 (xs.getD k 0)) := (hd' _).trans (hcell k hlt)
      have hc2 : wr.cell? (ad'.add k) = some (.int .i64 (xs.getD k 0)) := (hd' _).trans (hcell' k (by omega))
      have hne : (xs[k] != xs[k]) = false := by simp
      clear hx hy hcell hcell' hd'
      go_wp2
      go_quiet (fail)
      go_wp2
      go_roundw
      case rel => exact ⟨k + 1, by omega, by go_num, by obtain ⟨m, rfl⟩ := HD.out; exact ⟨_, World.drewN_drewN ..⟩⟩
      case measure => simp [intOf]; omega
    · go_wp2
      go_ret
      exact ⟨rfl, HD.out⟩
theorem rd_drew {w : World} {A : Option Addr} {xs : List Int} (h : Rd w w.heap.size A xs) (m : Nat) : Rd (w.drewN m) (w.drewN m).heap.size A xs := h.keep fun _ _ => rfl
/-- One row is written anew where it lies. -/
theorem OwnM.reRow {w w' : World} {B c : Nat} {A : Option Addr} {rs : List Rw} {j : Nat} {ys : List Int} (h : OwnM w B A c rs) (hj : j < rs.length) (hw : Wrote w w' rs[j].A) (ho : Own w' 0 rs[j].A rs[j].c ys) (hl : ys.length = rs[j].xs.length) : OwnM w' 0 A c (rs.set j ⟨rs[j].A, rs[j].c, ys⟩) := by
  have h0 := h.more (B' := 0) (by omega)
  have key : ∀ D : Option Addr, Hi D w.heap.size → Apart D rs[j].A → ∀ a, D = some a → w'.heap[a.block]? = w.heap[a.block]? := fun D hD hap a e =>
    hw.block _ (hD a e) (by
      cases hA : rs[j].A with
      | none =>
        intro e'
        simp [Go.Proofs.YtgkijkenbjjnmaaGreatDoor.row] at e'
      | some a' => rw [hA] at hap; exact apart_row hap a e (by simp))
  refine ⟨?_, ?_, ?_, ?_⟩
  · have e : vals (rs.set j ⟨rs[j].A, rs[j].c, ys⟩) = vals rs := by
      apply List.ext_getElem?
      intro i
      by_cases hi : i = j
      · subst hi
        simp [vals, List.getElem?_set, hj, Rw.val, hl]
      · simp [vals, List.getElem?_set_ne (Ne.symm hi)]
    rw [e, List.length_set]
    exact out_block h0.out (key A h.his.1 (h.off _ (List.getElem_mem hj)))
  · intro q hq
    obtain ⟨i, hi, rfl⟩ := List.getElem_of_mem hq
    have hi' : i < rs.length := by simpa using hi
    by_cases hij : i = j
    · subst hij
      rw [List.getElem_set_self]
      exact ho
    · rw [List.getElem_set_ne (Ne.symm hij)]
      exact own_block (h0.row _ (List.getElem_mem hi')) (key _ (h.his.2 _ (List.getElem_mem hi')) (h.apart i j hi' hj hij))
  · intro i k hi hk hik
    have hi' : i < rs.length := by simpa using hi
    have hk' : k < rs.length := by simpa using hk
    have e : ∀ t (ht : t < (rs.set j ⟨rs[j].A, rs[j].c, ys⟩).length) (ht' : t < rs.length), (rs.set j ⟨rs[j].A, rs[j].c, ys⟩)[t].A = rs[t].A := by
      intro t ht ht'
      by_cases htj : t = j
      · subst htj; rw [List.getElem_set_self]
      · rw [List.getElem_set_ne (Ne.symm htj)]
    rw [e i hi hi', e k hk hk']
    exact h.apart i k hi' hk' hik
  · intro q hq
    rcases List.mem_or_eq_of_mem_set hq with hq | rfl
    · exact h.off q hq
    · exact (show Apart A rs[j].A from h.off rs[j] (List.getElem_mem hj))
/-- The first j rows are marked, from k on. -/
def MarkTo (k : Int) (rs qs : List Rw) (j : Nat) : Prop := qs.length = rs.length ∧ ∀ i (hi : i < rs.length), qs[i]? = some (if i < j then ⟨rs[i].A, rs[i].c, marks (k + tot ((lists rs).take i)) rs[i].xs.length⟩ else rs[i])
theorem markTo_start (k : Int) (rs : List Rw) : MarkTo k rs rs 0 := ⟨rfl, fun i hi => by simp [hi]⟩
theorem markTo_at {k : Int} {rs qs : List Rw} {j : Nat} (h : MarkTo k rs qs j) (h1 : j < qs.length) (h2 : j < rs.length) : qs[j] = rs[j] := by
  have e := h.2 j h2
  rw [if_neg (by omega), List.getElem?_eq_getElem h1] at e
  exact Option.some.inj e
theorem markTo_step {k : Int} {rs qs : List Rw} {j : Nat} (h : MarkTo k rs qs j) (h1 : j < qs.length) (h2 : j < rs.length) :
    MarkTo k rs (qs.set j ⟨qs[j].A, qs[j].c, marks (k + tot ((lists rs).take j)) qs[j].xs.length⟩) (j + 1) := by
  refine ⟨by rw [List.length_set, h.1], fun i hi => ?_⟩
  by_cases hij : i = j
  · subst hij
    rw [List.getElem?_set_self h1, if_pos (by omega), markTo_at h h1 h2]
  · rw [List.getElem?_set_ne (Ne.symm hij), h.2 i hi]
    by_cases hlt : i < j
    · rw [if_pos hlt, if_pos (by omega)]
    · rw [if_neg hlt, if_neg (by omega)]
end Go.Proofs.YtgkijkenbjjnmaaGreatDoor

/- More words for slices of slices of ints: a row that grows where it lies, marks that touch the rows alone, and heldIntSS. -/
namespace Go.Proofs.YtgkijkenbjjnmaaGreatDoor
open Go.RowKit
set_option linter.unusedVariables false
set_option linter.unusedSimpArgs false
theorem wrote_block {w w' : World} {A' D : Option Addr} (hw : Wrote w w' A') (hD : Hi D w.heap.size) (hap : Apart D A') : ∀ a, D = some a → w'.heap[a.block]? = w.heap[a.block]? := fun a e =>
  hw.block _ (hD a e) (by
    cases A' with
    | none =>
      intro e'
      simp [Go.Proofs.YtgkijkenbjjnmaaGreatDoor.row] at e'
    | some a' => exact apart_row hap a e (by simp))
theorem moved_apart {A A' D : Option Addr} {n : Nat} (h : Apart A D) (hm : Moved A A' n) (hh : Hi D n) : Apart D A' := apart_symm (apart_moved h hm hh)
/-- A row is appended to, and laid anew. -/
theorem OwnM.reset {w w' : World} {B g c j c' : Nat} {A' : Option Addr} {rs : List Rw} {ys : List Int} (h : OwnM w B (some ⟨g, 0, none⟩) c rs) (hj : j < rs.length) (hw : Wrote w w' rs[j].A) (ho : Own w' B A' c' ys) (hm : Moved rs[j].A A' w.heap.size) :
    OwnM (w'.setCell ⟨g, j, none⟩ (.slice A' ys.length c')) B (some ⟨g, 0, none⟩) c (rs.set j ⟨A', c', ys⟩) := by
  have hmem := List.getElem_mem hj
  have hgA : Apart (some ⟨g, 0, none⟩) A' := moved_apart (apart_symm (h.off _ hmem)) hm h.his.1
  have oth : ∀ i (hi : i < rs.length), i ≠ j → Apart rs[i].A A' := fun i hi hne => moved_apart (h.apart j i hj hi (Ne.symm hne)) hm (h.his.2 _ (List.getElem_mem hi))
  have hg : g < w.heap.size := h.his.1 _ rfl
  have out' := out_block h.out (wrote_block hw h.his.1 (h.off _ hmem))
  have hst := World.ownsRow.stored out' j (.slice A' ys.length c')
  have hgr := hst.2
  have keep : ∀ D : Option Addr, Hi D w'.heap.size → Apart (some ⟨g, 0, none⟩) D → ∀ a, D = some a → (w'.setCell ⟨g, j, none⟩ (.slice A' ys.length c')).heap[a.block]? = w'.heap[a.block]? := fun D hD hap a e =>
    hgr.block _ (hD a e) (by
      have := hap _ a rfl e
      simp
      exact fun e => this e.symm)
  have hhi : ∀ D : Option Addr, Hi D w.heap.size → Hi D w'.heap.size := fun D hD a e => Nat.lt_of_lt_of_le (hD a e) hw.size
  refine ⟨?_, ?_, ?_, ?_⟩
  · have e : (vals rs).set j (Value.slice A' ys.length c') = vals (rs.set j ⟨A', c', ys⟩) := by simp [vals, List.map_set, Rw.val]
    rw [← e, List.length_set]
    exact hst.1
  · intro q hq
    obtain ⟨i, hi, rfl⟩ := List.getElem_of_mem hq
    have hi' : i < rs.length := by simpa using hi
    by_cases hij : i = j
    · subst hij
      rw [List.getElem_set_self]
      exact own_block ho (keep _ (own_hi ho) hgA)
    · rw [List.getElem_set_ne (Ne.symm hij)]
      have hr := h.row _ (List.getElem_mem hi')
      have o1 := own_block hr (wrote_block hw (own_hi hr) (h.apart i j hi' hj hij))
      exact own_block o1 (keep _ (own_hi o1) (h.off _ (List.getElem_mem hi')))
  · intro i k hi hk hik
    have hi' : i < rs.length := by simpa using hi
    have hk' : k < rs.length := by simpa using hk
    by_cases h1 : i = j
    · subst h1
      rw [List.getElem_set_self, List.getElem_set_ne (by omega)]
      exact apart_symm (oth k hk' (by omega))
    · by_cases h2 : k = j
      · subst h2
        rw [List.getElem_set_self, List.getElem_set_ne (by omega)]
        exact oth i hi' h1
      · rw [List.getElem_set_ne (by omega), List.getElem_set_ne (by omega)]
        exact h.apart i k hi' hk' hik
  · intro q hq
    rcases List.mem_or_eq_of_mem_set hq with hq | rfl
    · exact h.off q hq
    · exact hgA
theorem reset_apart {n : Nat} {D A' : Option Addr} {c' j : Nat} {rs : List Rw} {ys : List Int} (hj : j < rs.length) (hm : Moved rs[j].A A' n) (hD : Hi D n) (h : ∀ r ∈ rs, Apart r.A D) : ∀ r ∈ rs.set j ⟨A', c', ys⟩, Apart r.A D := fun r hr => by
  rcases List.mem_or_eq_of_mem_set hr with hr | rfl
  · exact h r hr
  · exact apart_moved (h _ (List.getElem_mem hj)) hm hD
/-- append in a region that draws its order. -/
theorem step_app {w : World} {ops : Array Oper} {o : Oper} {a : Act} {K : Act → World → Prop} {Q : Exit → Act → World → Prop} {E : Prop} (hgd : o.guard = none) (s x : Operand)
    (ho : o.op = .call { callee := .builtin .append, args := #[s, x], argTypes := #[25, 25] })
    (B : Nat) (A : Option Addr) (c n : Nat) (xs : List Int) (hl : xs.length = n) (hs : a.eval s = .slice A n c) (hown : Own w B A c xs) (g : Nat) (v : Int) (hx : a.eval x = .slice (some ⟨g, 0, none⟩) 1 1) (hc : w.cell? ⟨g, 0, none⟩ = some (.int .i64 v))
    (hn : n ≤ 1048576) (hB : B ≤ w.heap.size)
    (h : ∀ A' c' w', Own w' B A' c' (xs ++ [v]) → Wrote w w' A → Moved A A' w.heap.size → K (a.put o.dst (.slice A' (n + 1) c')) w') :
    if Region.wanted o (yielded ops a.tmps) = true then Oper.wp Tryz.prog o a w K Q else E := by
  subst hl
  have hw : Region.wanted o (yielded ops a.tmps) = true := by simp [Region.wanted, hgd]
  rw [if_pos hw]
  have hr : Rd w w.heap.size (some ⟨g, 0, none⟩) [v] := fun _ => ⟨⟨g, 0, none⟩, rfl, World.block_lt_of_cell? w _ hc, fun j hj => by
    obtain rfl : j = 0 := by simpa using hj
    exact hc⟩
  obtain ⟨A', c', w', hrun, h2, h3, h5⟩ := run_app_list w o.type B A c xs hown w.heap.size (some ⟨g, 0, none⟩) 1 [v] hr (by simp; omega) hB
  have hx' : a.eval x = .slice (some ⟨g, 0, none⟩) [v].length 1 := hx
  unfold Oper.wp execOp
  simp only [ho, resolve, invoke, builtin, Sem.run_bind, Sem.run_pure, Result.andThen_ok, List.map_toArray, List.map_cons, List.map_nil, hs, hx', hrun]
  exact h A' c' w' h2 h3 h5
/-- The world has grown; of what there was at most the blocks of the rows have turned. -/
structure Only (w w' : World) (S : Nat → Prop) : Prop where
  os : w'.os = w.os
  tape : w'.tape = w.tape
  output : w'.output = w.output
  size : w.heap.size ≤ w'.heap.size
  block : ∀ k, k < w.heap.size → ¬ S k → w'.heap[k]? = w.heap[k]?
def inRows (rs : List Rw) (k : Nat) : Prop := ∃ r ∈ rs, ∃ a : Addr, r.A = some a ∧ a.block = k
theorem Only.refl (w : World) (S : Nat → Prop) : Only w w S := ⟨rfl, rfl, rfl, Nat.le_refl _, fun _ _ _ => rfl⟩
theorem Only.trans {a b c : World} {S : Nat → Prop} (h : Only a b S) (k : Only b c S) : Only a c S :=
  ⟨k.os.trans h.os, k.tape.trans h.tape, k.output.trans h.output, Nat.le_trans h.size k.size, fun i hi ho => (k.block i (Nat.lt_of_lt_of_le hi h.size) ho).trans (h.block i hi ho)⟩
theorem Only.of_wrote {w w' : World} {A : Option Addr} {S : Nat → Prop} (h : Wrote w w' A) (hS : ∀ a, A = some a → S a.block) : Only w w' S :=
  ⟨h.os, h.tape, h.output, h.size, fun k hk ho => h.block k hk fun e => by
    cases A with
    | none => simp [row] at e
    | some a =>
      simp [row] at e
      subst e
      exact ho (hS a rfl)⟩
theorem own_only {w w' : World} {B c : Nat} {A : Option Addr} {xs : List Int} {S : Nat → Prop} (h : Own w B A c xs) (hs : Only w w' S) (ha : ∀ a, A = some a → ¬ S a.block) : Own w' B A c xs :=
  own_block h fun a e => hs.block _ (own_lt h a e).2 (ha a e)
theorem rows_not {A : Option Addr} {rs : List Rw} (h : ∀ r ∈ rs, Apart r.A A) : ∀ a, A = some a → ¬ inRows rs a.block := fun a e ⟨r, hr, b, hb, hk⟩ => h r hr b a hb e hk
theorem blk_only {w w' : World} {g : Nat} {t : TypeId} {cs : Array Value} {S : Nat → Prop} (h : Blk w g t cs) (hs : Only w w' S) (ha : ¬ S g) : Blk w' g t cs := (hs.block g h.lt ha).trans h
theorem rd_only {w w' : World} {A : Option Addr} {xs : List Int} {S : Nat → Prop} (h : Rd w w.heap.size A xs) (hs : Only w w' S) (ha : ∀ a, A = some a → ¬ S a.block) : Rd w' w'.heap.size A xs := fun h0 => by
  obtain ⟨ad, e, hb, hc⟩ := h h0
  refine ⟨ad, e, Nat.lt_of_lt_of_le hb hs.size, fun j hj => ?_⟩
  rw [← hc j hj]
  exact World.cell?_of_block (hs.block _ (by rw [block_add]; exact hb) (by rw [block_add]; exact ha ad e))
theorem below_only {w0 w w' : World} {B : Nat} {S : Nat → Prop} (h : Below B w0 w) (hs : Only w w' S) (hB : B ≤ w.heap.size) (hS : ∀ k, S k → B ≤ k) : Below B w0 w' :=
  ⟨hs.os.trans h.os, hs.tape.trans h.tape, hs.output.trans h.output, Nat.le_trans h.size hs.size, fun k hk => (hs.block k (by omega) (fun hk' => by have := hS k hk'; omega)).trans (h.block k hk)⟩
theorem rows_lo {rs : List Rw} {n : Nat} (h : ∀ r ∈ rs, Lo r.A n) : ∀ k, inRows rs k → n ≤ k := fun k ⟨r, hr, a, ha, hk⟩ => by have := h r hr a ha; omega
theorem OwnM.only {w w' : World} {B c : Nat} {A : Option Addr} {rs : List Rw} {S : Nat → Prop} (h : OwnM w B A c rs) (hs : Only w w' S) (ho : ∀ a, A = some a → ¬ S a.block) (hr : ∀ r ∈ rs, ∀ a, r.A = some a → ¬ S a.block) : OwnM w' B A c rs :=
  h.kept (fun a e => hs.block _ (h.his.1 a e) (ho a e)) fun r m a e => hs.block _ (h.his.2 r m a e) (hr r m a e)
theorem markTo_row {k : Int} {rs qs : List Rw} (h : MarkTo k rs qs rs.length) {i : Nat} (hi : i < qs.length) (hi' : i < rs.length) : qs[i].xs = marks (k + tot ((lists rs).take i)) rs[i].xs.length ∧ qs[i].xs.length = rs[i].xs.length := by
  have e := h.2 i hi'
  rw [if_pos hi', List.getElem?_eq_getElem hi] at e
  have e := Option.some.inj e
  rw [e]
  exact ⟨rfl, marks_length _ _⟩
end Go.Proofs.YtgkijkenbjjnmaaGreatDoor
