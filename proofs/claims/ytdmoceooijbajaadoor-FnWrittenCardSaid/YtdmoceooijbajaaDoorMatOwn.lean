/- Words for slices of slices of ints that the call owns; a world in which at most a span of blocks has turned. -/
import Derived.Test.YtdmoceooijbajaaDoorMat
import Derived.Test.YtdmoceooijbajaaDoorStep
namespace Go.Proofs.YtdmoceooijbajaaDoor
open Go.RowKit
set_option linter.unusedVariables false
set_option linter.unusedSimpArgs false
def vals (rs : List Rw) : List Value := rs.map Rw.val
/-- The outer row is owned, every row is owned, all lie apart. -/
structure OwnM (w : World) (B : Nat) (A : Option Addr) (c : Nat) (rs : List Rw) : Prop where
  out : w.ownsRow B 22 1 (.slice A rs.length c) rs.length (vals rs)
  row : ∀ r ∈ rs, Own w B r.A r.c r.xs
  apart : ∀ i j (hi : i < rs.length) (hj : j < rs.length), i ≠ j → Apart rs[i].A rs[j].A
  off : ∀ r ∈ rs, Apart A r.A
/-- The world has grown; of what there was at most the blocks from lo up to hi have turned. -/
structure Span (w w' : World) (lo hi : Nat) : Prop where
  os : w'.os = w.os
  tape : w'.tape = w.tape
  output : w'.output = w.output
  size : w.heap.size ≤ w'.heap.size
  block : ∀ k, k < w.heap.size → (k < lo ∨ hi ≤ k) → w'.heap[k]? = w.heap[k]?
section
variable {w w' w2 : World} {B B' c lo hi : Nat} {A A' : Option Addr} {rs : List Rw} {xs : List Int}
theorem Span.refl (w : World) (lo hi : Nat) : Span w w lo hi := ⟨rfl, rfl, rfl, Nat.le_refl _, fun _ _ _ => rfl⟩
theorem Span.trans (h : Span w w' lo hi) (k : Span w' w2 lo hi) : Span w w2 lo hi :=
  ⟨k.os.trans h.os, k.tape.trans h.tape, k.output.trans h.output, Nat.le_trans h.size k.size, fun i hi' ho => (k.block i (Nat.lt_of_lt_of_le hi' h.size) ho).trans (h.block i hi' ho)⟩
theorem Span.of_wrote (h : Wrote w w' A) (hl : Lo A lo) (hh : Hi A hi) : Span w w' lo hi :=
  ⟨h.os, h.tape, h.output, h.size, fun k hk ho => h.block k hk fun e => by
    cases A with
    | none => simp [row] at e
    | some a =>
      simp [row] at e
      have := hl a rfl
      have := hh a rfl
      omega⟩
theorem Span.of_below (h : Below w.heap.size w w') (lo hi : Nat) : Span w w' lo hi := ⟨h.os, h.tape, h.output, h.size, fun k hk _ => h.block k hk⟩
theorem own_block (h : Own w B A c xs) (hk : ∀ a, A = some a → w'.heap[a.block]? = w.heap[a.block]?) : Own w' B A c xs := by
  obtain ⟨h1, h2⟩ := h
  refine ⟨h1, ?_⟩
  rcases h2 with h2 | ⟨g, cap, cur, hv, hg, hh, r⟩
  · exact Or.inl h2
  · injection hv with e1 e2 e3
    exact Or.inr ⟨g, cap, cur, by rw [e1, e2, e3], hg, (hk _ e1).trans hh, r⟩
theorem out_block {n : Nat} {vs : List Value} {t : TypeId} (h : w.ownsRow B t 1 (.slice A n c) n vs) (hk : ∀ a, A = some a → w'.heap[a.block]? = w.heap[a.block]?) : w'.ownsRow B t 1 (.slice A n c) n vs := by
  obtain ⟨h1, h2⟩ := h
  refine ⟨h1, ?_⟩
  rcases h2 with h2 | ⟨g, cap, cur, hv, hg, hh, r⟩
  · exact Or.inl h2
  · injection hv with e1 e2 e3
    exact Or.inr ⟨g, cap, cur, by rw [e1, e2, e3], hg, (hk _ e1).trans hh, r⟩
theorem out_lt {n : Nat} {vs : List Value} {t : TypeId} (h : w.ownsRow B t 1 (.slice A n c) n vs) : ∀ a, A = some a → B ≤ a.block ∧ a.block < w.heap.size := fun a e => by
  subst e
  exact World.ownsRow.lt h _ rfl
theorem own_span (h : Own w B A c xs) (hs : Span w w' lo hi) (ha : Hi A lo ∨ Lo A hi) : Own w' B A c xs :=
  own_block h fun a e => hs.block _ (own_lt h a e).2 (ha.elim (fun h => .inl (h a e)) fun h => .inr (h a e))
theorem below_span {w0 : World} (h : Below B w0 w) (hs : Span w w' lo hi) (hB : B ≤ lo) (hw : B ≤ w.heap.size) : Below B w0 w' :=
  ⟨hs.os.trans h.os, hs.tape.trans h.tape, hs.output.trans h.output, Nat.le_trans h.size hs.size, fun k hk => (hs.block k (by omega) (.inl (by omega))).trans (h.block k hk)⟩
theorem OwnM.los (h : OwnM w B A c rs) : Lo A B ∧ ∀ r ∈ rs, Lo r.A B := ⟨fun a e => (out_lt h.out a e).1, fun r hr => own_lo (h.row r hr)⟩
theorem OwnM.his (h : OwnM w B A c rs) : Hi A w.heap.size ∧ ∀ r ∈ rs, Hi r.A w.heap.size := ⟨fun a e => (out_lt h.out a e).2, fun r hr => own_hi (h.row r hr)⟩
theorem OwnM.kept (h : OwnM w B A c rs) (ho : ∀ a, A = some a → w'.heap[a.block]? = w.heap[a.block]?) (hr : ∀ r ∈ rs, ∀ a, r.A = some a → w'.heap[a.block]? = w.heap[a.block]?) : OwnM w' B A c rs :=
  ⟨out_block h.out ho, fun r m => own_block (h.row r m) (hr r m), h.apart, h.off⟩
theorem OwnM.past (h : OwnM w B A c rs) (hb : Below w.heap.size w w') : OwnM w' B A c rs :=
  h.kept (fun a e => hb.block _ (h.his.1 a e)) fun r m a e => hb.block _ (h.his.2 r m a e)
theorem OwnM.more (h : OwnM w B A c rs) (hB : B' ≤ B) : OwnM w B' A c rs := by
  refine ⟨?_, fun r m => own_mono (h.row r m) hB, h.apart, h.off⟩
  obtain ⟨h1, h2⟩ := h.out
  refine ⟨h1, ?_⟩
  rcases h2 with h2 | ⟨g, cap, cur, hv, hg, r⟩
  · exact Or.inl h2
  · exact Or.inr ⟨g, cap, cur, hv, by omega, r⟩
theorem OwnM.wrote (h : OwnM w B A c rs) (hw : Wrote w w' A') (ha : Apart A A') (hr : ∀ r ∈ rs, Apart r.A A') : OwnM w' B A c rs := by
  have key : ∀ D : Option Addr, Hi D w.heap.size → Apart D A' → ∀ a, D = some a → w'.heap[a.block]? = w.heap[a.block]? := fun D hD hap a e =>
    hw.block _ (hD a e) (by
      cases A' with
      | none =>
        intro e'
        simp [Go.Proofs.YtdmoceooijbajaaDoor.row] at e'
      | some a' => exact apart_row hap a e (by simp))
  exact h.kept (key A h.his.1 ha) fun r m => key r.A (h.his.2 r m) (hr r m)
theorem OwnM.span (h : OwnM w B A c rs) (hs : Span w w' lo hi) (ha : w.heap.size ≤ lo ∨ hi ≤ B) : OwnM w' B A c rs := by
  have key : ∀ D : Option Addr, Lo D B → Hi D w.heap.size → ∀ a, D = some a → w'.heap[a.block]? = w.heap[a.block]? := fun D hl hD a e => by
    have := hl a e
    have := hD a e
    exact hs.block _ (hD a e) (by omega)
  exact h.kept (key A h.los.1 h.his.1) fun r m => key r.A (h.los.2 r m) (h.his.2 r m)
theorem OwnM.rdm (h : OwnM w B A c rs) : RdM w w.heap.size A rs := by
  refine ⟨fun h0 => ?_, fun r m => own_rd (h.row r m)⟩
  rcases h.out.2 with ⟨hv, hn⟩ | ⟨g, cap, cur, hv, hb, hh, _⟩
  · omega
  · have hv' := hv
    injection hv with h1 h2 h3
    subst h1
    exact ⟨_, rfl, (Array.getElem?_eq_some_iff.1 hh).1, fun j r hj => World.ownsRow.cells h.out rfl j _ (by simp [vals, hj])⟩
theorem OwnM.head (h : OwnM w B A c rs) (h0 : 0 < rs.length) : ∃ g, A = some ⟨g, 0, none⟩ ∧ B ≤ g ∧ g < w.heap.size := by
  rcases h.out.2 with ⟨hv, hn⟩ | ⟨g, cap, cur, hv, hb, hh, _⟩
  · omega
  · injection hv with h1
    exact ⟨g, h1, hb, (Array.getElem?_eq_some_iff.1 hh).1⟩
theorem OwnM.cell {g k : Nat} (h : OwnM w B (some ⟨g, 0, none⟩) c rs) (hk : k < rs.length) : w.cell? ⟨g, k, none⟩ = some rs[k].val :=
  (World.ownsRow.cellAt h.out k (by omega)).trans (by simp [vals, hk])
theorem OwnM.frozen {g : Nat} (h : OwnM w B (some ⟨g, 0, none⟩) c rs) (k : Nat) : w.frozen? ⟨g, k, none⟩ = false := World.ownsRow.frozenAt h.out k
/-- A row is laid anew in the outer row. -/
theorem OwnM.set {g k : Nat} (h : OwnM w B (some ⟨g, 0, none⟩) c rs) (hk : k < rs.length) (r : Rw) (hr : Own w B r.A r.c r.xs) (hg : Apart (some ⟨g, 0, none⟩) r.A) (ha : ∀ j (hj : j < rs.length), j ≠ k → Apart rs[j].A r.A) :
    OwnM (w.setCell ⟨g, k, none⟩ r.val) B (some ⟨g, 0, none⟩) c (rs.set k r) := by
  have hst := World.ownsRow.stored h.out k r.val
  have keep : ∀ D : Option Addr, Hi D w.heap.size → Apart (some ⟨g, 0, none⟩) D → ∀ a, D = some a → (w.setCell ⟨g, k, none⟩ r.val).heap[a.block]? = w.heap[a.block]? := fun D hD hap a e =>
    hst.2.block _ (hD a e) (by
      have := hap _ a rfl e
      simp
      exact fun e => this e.symm)
  refine ⟨?_, ?_, ?_, ?_⟩
  · have e : (vals rs).set k r.val = vals (rs.set k r) := by simp [vals, List.map_set]
    rw [← e, List.length_set]
    exact hst.1
  · intro q hq
    rcases List.mem_or_eq_of_mem_set hq with hq | rfl
    · exact own_block (h.row q hq) (keep q.A (h.his.2 q hq) (h.off q hq))
    · exact own_block hr (keep q.A (own_hi hr) hg)
  · intro i j hi hj hij
    have hi' : i < rs.length := by simpa using hi
    have hj' : j < rs.length := by simpa using hj
    by_cases h1 : i = k
    · subst h1
      rw [List.getElem_set_self, List.getElem_set_ne (by omega)]
      exact apart_symm (ha j hj' (by omega))
    · by_cases h2 : j = k
      · subst h2
        rw [List.getElem_set_self, List.getElem_set_ne (by omega)]
        exact ha i hi' h1
      · rw [List.getElem_set_ne (by omega), List.getElem_set_ne (by omega)]
        exact h.apart i j hi' hj' hij
  · intro q hq
    rcases List.mem_or_eq_of_mem_set hq with hq | rfl
    · exact h.off q hq
    · exact hg
end
def nilRw : Rw := ⟨none, 0, []⟩
theorem ownM_made (w : World) (n B : Nat) (hB : B ≤ w.heap.size) (hn : n ≤ maxLen) : OwnM (w.alloc (.cells (madeCells #[.slice none 0 0] n) 22)) B (some ⟨w.heap.size, 0, none⟩) n (List.replicate n nilRw) := by
  refine ⟨?_, fun r hr => ?_, fun i j hi hj _ => ?_, fun r hr => ?_⟩
  · have := World.ownsRow_lit (base := B) (e := 22) (size := 1) w (madeCells #[.slice none 0 0] n) n hB hn (by simp [size_madeCells])
    rw [List.length_replicate]
    have e : vals (List.replicate n nilRw) = (madeCells #[.slice none 0 0] n).toList := by rw [toList_madeCells_one]; simp [vals, nilRw, Rw.val]
    rw [e]
    exact this
  · obtain rfl := List.eq_of_mem_replicate hr
    exact own_nil _ _
  · intro a a' e
    simp [nilRw] at e
  · obtain rfl := List.eq_of_mem_replicate hr
    intro a a' _ e
    simp [nilRw] at e
theorem rowInfo : (Tryd.prog.info? 22).map (fun i => (i.zero, i.size, i.bytes)) = some (some (.slice none 0 0), 1, 24) := by kernel_rfl
end Go.Proofs.YtdmoceooijbajaaDoor
