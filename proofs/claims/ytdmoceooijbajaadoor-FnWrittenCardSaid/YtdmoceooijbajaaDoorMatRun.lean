/- More words for slices of slices of ints: a row that grows where it lies, marks that touch the rows alone, and heldIntSS. -/
import Derived.Test.YtdmoceooijbajaaDoorMatFn
import Derived.Test.YtdmoceooijbajaaDoorClone
namespace Go.Proofs.YtdmoceooijbajaaDoor
open Go.RowKit
set_option linter.unusedVariables false
set_option linter.unusedSimpArgs false
theorem wrote_block {w w' : World} {A' D : Option Addr} (hw : Wrote w w' A') (hD : Hi D w.heap.size) (hap : Apart D A') : ∀ a, D = some a → w'.heap[a.block]? = w.heap[a.block]? := fun a e =>
  hw.block _ (hD a e) (by
    cases A' with
    | none =>
      intro e'
      simp [Go.Proofs.YtdmoceooijbajaaDoor.row] at e'
    | some a' => exact apart_row hap a e (by simp))
theorem moved_apart {A A' D : Option Addr} {n : Nat} (h : Apart A D) (hm : Moved A A' n) (hh : Hi D n) : Apart D A' := apart_symm (apart_moved h hm hh)
/-- A row is appended to, and laid anew. -/
theorem OwnM.reset {w w' : World} {B g c j c' : Nat} {A' : Option Addr} {rs : List Rw} {ys : List Int} (h : OwnM w B (some ⟨g, 0, none⟩) c rs) (hj : j < rs.length) (hw : Wrote w w' rs[j].A) (ho : Own w' B A' c' ys) (hm : Moved rs[j].A A' w.heap.size) :
    OwnM (w'.setCell ⟨g, j, none⟩ (.slice A' ys.length c')) B (some ⟨g, 0, none⟩) c (rs.set j ⟨A', c', ys⟩) := by
  have hmem := List.getElem_mem hj
  have hgA : Apart (some ⟨g, 0, none⟩) A' := moved_apart (apart_symm (h.off _ hmem)) hm h.his.1
  have oth : ∀ i (hi : i < rs.length), i ≠ j → Apart rs[i].A A' := fun i hi hne => moved_apart (h.apart j i hj hi (Ne.symm hne)) hm (h.his.2 _ (List.getElem_mem hi))
  have hg : g < w.heap.size := h.his.1 _ rfl
  have out' := out_block h.out (wrote_block hw h.his.1 (h.off _ hmem))
  have hst := World.ownsRow.stored out' j (.slice A' ys.length c')
  have hgr := hst.2
  have keep : ∀ D : Option Addr, Hi D w'.heap.size → Apart (some ⟨g, 0, none⟩) D → ∀ a, D = some a → (w'.setCell ⟨g, j, none⟩ (.slice A' ys.length c')).heap[a.block]? = w'.heap[a.block]? := fun D hD hap a e =>
    hgr.block _ (hD a e) (by
      have := hap _ a rfl e
      simp
      exact fun e => this e.symm)
  have hhi : ∀ D : Option Addr, Hi D w.heap.size → Hi D w'.heap.size := fun D hD a e => Nat.lt_of_lt_of_le (hD a e) hw.size
  refine ⟨?_, ?_, ?_, ?_⟩
  · have e : (vals rs).set j (Value.slice A' ys.length c') = vals (rs.set j ⟨A', c', ys⟩) := by simp [vals, List.map_set, Rw.val]
    rw [← e, List.length_set]
    exact hst.1
  · intro q hq
    obtain ⟨i, hi, rfl⟩ := List.getElem_of_mem hq
    have hi' : i < rs.length := by simpa using hi
    by_cases hij : i = j
    · subst hij
      rw [List.getElem_set_self]
      exact own_block ho (keep _ (own_hi ho) hgA)
    · rw [List.getElem_set_ne (Ne.symm hij)]
      have hr := h.row _ (List.getElem_mem hi')
      have o1 := own_block hr (wrote_block hw (own_hi hr) (h.apart i j hi' hj hij))
      exact own_block o1 (keep _ (own_hi o1) (h.off _ (List.getElem_mem hi')))
  · intro i k hi hk hik
    have hi' : i < rs.length := by simpa using hi
    have hk' : k < rs.length := by simpa using hk
    by_cases h1 : i = j
    · subst h1
      rw [List.getElem_set_self, List.getElem_set_ne (by omega)]
      exact apart_symm (oth k hk' (by omega))
    · by_cases h2 : k = j
      · subst h2
        rw [List.getElem_set_self, List.getElem_set_ne (by omega)]
        exact oth i hi' h1
      · rw [List.getElem_set_ne (by omega), List.getElem_set_ne (by omega)]
        exact h.apart i k hi' hk' hik
  · intro q hq
    rcases List.mem_or_eq_of_mem_set hq with hq | rfl
    · exact h.off q hq
    · exact hgA
theorem reset_apart {n : Nat} {D A' : Option Addr} {c' j : Nat} {rs : List Rw} {ys : List Int} (hj : j < rs.length) (hm : Moved rs[j].A A' n) (hD : Hi D n) (h : ∀ r ∈ rs, Apart r.A D) : ∀ r ∈ rs.set j ⟨A', c', ys⟩, Apart r.A D := fun r hr => by
  rcases List.mem_or_eq_of_mem_set hr with hr | rfl
  · exact h r hr
  · exact apart_moved (h _ (List.getElem_mem hj)) hm hD
/-- append in a region that draws its order. -/
theorem step_app {w : World} {ops : Array Oper} {o : Oper} {a : Act} {K : Act → World → Prop} {Q : Exit → Act → World → Prop} {E : Prop} (hgd : o.guard = none) (s x : Operand)
    (ho : o.op = .call { callee := .builtin .append, args := #[s, x], argTypes := #[22, 22] })
    (B : Nat) (A : Option Addr) (c n : Nat) (xs : List Int) (hl : xs.length = n) (hs : a.eval s = .slice A n c) (hown : Own w B A c xs) (g : Nat) (v : Int) (hx : a.eval x = .slice (some ⟨g, 0, none⟩) 1 1) (hc : w.cell? ⟨g, 0, none⟩ = some (.int .i64 v))
    (hn : n ≤ 1048576) (hB : B ≤ w.heap.size)
    (h : ∀ A' c' w', Own w' B A' c' (xs ++ [v]) → Wrote w w' A → Moved A A' w.heap.size → K (a.put o.dst (.slice A' (n + 1) c')) w') :
    if Region.wanted o (yielded ops a.tmps) = true then Oper.wp Tryd.prog o a w K Q else E := by
  subst hl
  have hw : Region.wanted o (yielded ops a.tmps) = true := by simp [Region.wanted, hgd]
  rw [if_pos hw]
  have hr : Rd w w.heap.size (some ⟨g, 0, none⟩) [v] := fun _ => ⟨⟨g, 0, none⟩, rfl, World.block_lt_of_cell? w _ hc, fun j hj => by
    obtain rfl : j = 0 := by simpa using hj
    exact hc⟩
  obtain ⟨A', c', w', hrun, h2, h3, h5⟩ := run_app_list w o.type B A c xs hown w.heap.size (some ⟨g, 0, none⟩) 1 [v] hr (by simp; omega) hB
  have hx' : a.eval x = .slice (some ⟨g, 0, none⟩) [v].length 1 := hx
  unfold Oper.wp execOp
  simp only [ho, resolve, invoke, builtin, Sem.run_bind, Sem.run_pure, Result.andThen_ok, List.map_toArray, List.map_cons, List.map_nil, hs, hx', hrun]
  exact h A' c' w' h2 h3 h5
/-- The world has grown; of what there was at most the blocks of the rows have turned. -/
structure Only (w w' : World) (S : Nat → Prop) : Prop where
  os : w'.os = w.os
  tape : w'.tape = w.tape
  output : w'.output = w.output
  size : w.heap.size ≤ w'.heap.size
  block : ∀ k, k < w.heap.size → ¬ S k → w'.heap[k]? = w.heap[k]?
def inRows (rs : List Rw) (k : Nat) : Prop := ∃ r ∈ rs, ∃ a : Addr, r.A = some a ∧ a.block = k
theorem Only.refl (w : World) (S : Nat → Prop) : Only w w S := ⟨rfl, rfl, rfl, Nat.le_refl _, fun _ _ _ => rfl⟩
theorem Only.trans {a b c : World} {S : Nat → Prop} (h : Only a b S) (k : Only b c S) : Only a c S :=
  ⟨k.os.trans h.os, k.tape.trans h.tape, k.output.trans h.output, Nat.le_trans h.size k.size, fun i hi ho => (k.block i (Nat.lt_of_lt_of_le hi h.size) ho).trans (h.block i hi ho)⟩
theorem Only.of_wrote {w w' : World} {A : Option Addr} {S : Nat → Prop} (h : Wrote w w' A) (hS : ∀ a, A = some a → S a.block) : Only w w' S :=
  ⟨h.os, h.tape, h.output, h.size, fun k hk ho => h.block k hk fun e => by
    cases A with
    | none => simp [row] at e
    | some a =>
      simp [row] at e
      subst e
      exact ho (hS a rfl)⟩
theorem own_only {w w' : World} {B c : Nat} {A : Option Addr} {xs : List Int} {S : Nat → Prop} (h : Own w B A c xs) (hs : Only w w' S) (ha : ∀ a, A = some a → ¬ S a.block) : Own w' B A c xs :=
  own_block h fun a e => hs.block _ (own_lt h a e).2 (ha a e)
theorem rows_not {A : Option Addr} {rs : List Rw} (h : ∀ r ∈ rs, Apart r.A A) : ∀ a, A = some a → ¬ inRows rs a.block := fun a e ⟨r, hr, b, hb, hk⟩ => h r hr b a hb e hk
theorem blk_only {w w' : World} {g : Nat} {t : TypeId} {cs : Array Value} {S : Nat → Prop} (h : Blk w g t cs) (hs : Only w w' S) (ha : ¬ S g) : Blk w' g t cs := (hs.block g h.lt ha).trans h
theorem rd_only {w w' : World} {A : Option Addr} {xs : List Int} {S : Nat → Prop} (h : Rd w w.heap.size A xs) (hs : Only w w' S) (ha : ∀ a, A = some a → ¬ S a.block) : Rd w' w'.heap.size A xs := fun h0 => by
  obtain ⟨ad, e, hb, hc⟩ := h h0
  refine ⟨ad, e, Nat.lt_of_lt_of_le hb hs.size, fun j hj => ?_⟩
  rw [← hc j hj]
  exact World.cell?_of_block (hs.block _ (by rw [block_add]; exact hb) (by rw [block_add]; exact ha ad e))
theorem below_only {w0 w w' : World} {B : Nat} {S : Nat → Prop} (h : Below B w0 w) (hs : Only w w' S) (hB : B ≤ w.heap.size) (hS : ∀ k, S k → B ≤ k) : Below B w0 w' :=
  ⟨hs.os.trans h.os, hs.tape.trans h.tape, hs.output.trans h.output, Nat.le_trans h.size hs.size, fun k hk => (hs.block k (by omega) (fun hk' => by have := hS k hk'; omega)).trans (h.block k hk)⟩
theorem rows_lo {rs : List Rw} {n : Nat} (h : ∀ r ∈ rs, Lo r.A n) : ∀ k, inRows rs k → n ≤ k := fun k ⟨r, hr, a, ha, hk⟩ => by have := h r hr a ha; omega
theorem OwnM.only {w w' : World} {B c : Nat} {A : Option Addr} {rs : List Rw} {S : Nat → Prop} (h : OwnM w B A c rs) (hs : Only w w' S) (ho : ∀ a, A = some a → ¬ S a.block) (hr : ∀ r ∈ rs, ∀ a, r.A = some a → ¬ S a.block) : OwnM w' B A c rs :=
  h.kept (fun a e => hs.block _ (h.his.1 a e) (ho a e)) fun r m a e => hs.block _ (h.his.2 r m a e) (hr r m a e)
theorem markTo_row {k : Int} {rs qs : List Rw} (h : MarkTo k rs qs rs.length) {i : Nat} (hi : i < qs.length) (hi' : i < rs.length) : qs[i].xs = marks (k + tot ((lists rs).take i)) rs[i].xs.length ∧ qs[i].xs.length = rs[i].xs.length := by
  have e := h.2 i hi'
  rw [if_pos hi', List.getElem?_eq_getElem hi] at e
  have e := Option.some.inj e
  rw [e]
  exact ⟨rfl, marks_length _ _⟩
end Go.Proofs.YtdmoceooijbajaaDoor
