import Derived.Test.YtgkijkenbjjnmaaGreatDoorRows
import Derived.WalkKit
import Derived.WalkLawsBesides
import Derived.WalkSpells
import Derived.ProofKit
import Derived.OpenShut
import Derived.Below
import Derived.Deep.QuietTactic
import Derived.BigQuiet
import Derived.Lib.Hide
import Derived.Lib.SmallJoins
import Derived.Handy
import Derived.ShutString
import Derived.ChangeOld
import Derived.Maps.AppendAt
import Derived.Laws.OwnMore
import Derived.Deep.Draws
import Derived.Deep.OwnRows
import Derived.OwnWalk
/- Words and small lemmas that every text of this claim uses: nothing of the program. -/
namespace Go.Proofs.YtgkijkenbjjnmaaGreatDoor
open Go.RowKit

def inB (x a b : Int) : Bool := decide (a ≤ x ∧ x ≤ b)
theorem inB_true {x a b : Int} (h1 : a ≤ x) (h2 : x ≤ b) : inB x a b = true := by simp [inB, h1, h2]
theorem inB_lo {x a b : Int} (h1 : x < a) : inB x a b = false := by simp [inB]; omega
theorem inB_hi {x a b : Int} (h1 : b < x) : inB x a b = false := by simp [inB]; omega
theorem inB_of {x a b : Int} (h : inB x a b = true) : a ≤ x ∧ x ≤ b := by simpa [inB] using h

theorem ret_bool {a b : Bool} (h : a = b) : Ending.returned (.bool a) = .returned (.bool b) := by rw [h]
theorem ret_int {k : IntKind} {a b : Int} (h : a = b) : Ending.returned (.int k a) = .returned (.int k b) := by rw [h]

def I64 (xs : List Int) : Prop := ∀ n ∈ xs, -9223372036854775808 ≤ n ∧ n ≤ 9223372036854775807
/-- The slice value '.slice A xs.length c' reads as xs and lies below block B. -/
def Rd (w : World) (B : Nat) (A : Option Addr) (xs : List Int) : Prop :=
  0 < xs.length → ∃ ad, A = some ad ∧ ad.block < B ∧ ∀ j, j < xs.length → w.cell? (ad.add j) = some (.int .i64 (xs.getD j 0))

/-- Block g is the cells cs of element type t, none frozen. -/
def Blk (w : World) (g : Nat) (t : TypeId) (cs : Array Value) : Prop := w.heap[g]? = some (.cells cs t (0, 0))
section
variable {w w' : World} {g : Nat} {t : TypeId} {cs : Array Value}
theorem Blk.lt (h : Blk w g t cs) : g < w.heap.size := by
  rcases Nat.lt_or_ge g w.heap.size with hlt | hge
  · exact hlt
  · unfold Blk at h; rw [Array.getElem?_eq_none hge] at h; cases h
theorem Blk.cell (h : Blk w g t cs) (i : Nat) : w.cell? ⟨g, i, none⟩ = cs[i]? := cell_of_row w g i cs t (0, 0) h
theorem Blk.frozen (h : Blk w g t cs) (i : Nat) : w.frozen? ⟨g, i, none⟩ = false := by
  unfold Blk at h
  simp [World.frozen?, h]
theorem Blk.new (w : World) (t : TypeId) (cs : Array Value) : Blk (w.alloc (.cells cs t)) w.heap.size t cs := heap_alloc_new w _
theorem Blk.drew (h : Blk w g t cs) : Blk w.drew g t cs := h
theorem Blk.alloc (h : Blk w g t cs) (o : Obj) : Blk (w.alloc o) g t cs := (Below.heap_alloc w o g h.lt).trans h
theorem Blk.set_ (h : Blk w g t cs) (i : Nat) (u : Value) : Blk (w.setCell ⟨g, i, none⟩ u) g t (cs.setIfInBounds i u) := by
  unfold Blk at h ⊢
  simp [World.setCell, Array.getElem?_modify, h]
theorem Blk.far (h : Blk w g t cs) {p : Addr} (hp : g ≠ p.block) (u : Value) : Blk (w.setCell p u) g t cs := (Below.heap_setCell w p u g hp).trans h
theorem Blk.below {B : Nat} (h : Blk w g t cs) (hb : Below B w w') (hg : g < B) : Blk w' g t cs := (hb.block g hg).trans h
/-- Behind a call that keeps all that there was. -/
theorem Blk.past (h : Blk w g t cs) (hb : Below w.heap.size w w') : Blk w' g t cs := h.below hb h.lt
theorem Blk.grown {row : Option Nat} (h : Blk w g t cs) (hb : w.grownBy w' row) (hg : some g ≠ row) : Blk w' g t cs := (hb.block g h.lt hg).trans h
end
theorem pastB {B : Nat} {a b c : World} (h : Below B a b) (k : Below b.heap.size b c) (hB : B ≤ b.heap.size) : Below B a c := h.trans (k.mono hB)
/-- From the world at the start: a chain of calls, each of which keeps all that there was. -/
theorem thenB {a b c : World} (h : Below a.heap.size a b) (k : Below b.heap.size b c) : Below a.heap.size a c := h.trans (k.mono h.size)

/-! ### How the arguments of a law are opened -/
section
open Go.ChangeShapes Go.WideShapes Go.Joins Go.Deep
variable {H : Type} {enc : TypeId × Value → H} {P : Program} {w : World} {base : Nat} {spare : Nat → Bool} {held : Bool}
theorem wf_i64 {n : Int} (h : (Lit.int .i64 n).wf = true) : -9223372036854775808 ≤ n ∧ n ≤ 9223372036854775807 := bounds_i64 h
theorem fld_int {t : TypeId} {v : Value} {n : Nat} {y : DataW H × List MemPlace} (ht : P.underlying t = some (.int .i64)) (h : DataW.trod enc P w base spare held n t [v] = some y) :
    ∃ a, v = .int .i64 a ∧ -9223372036854775808 ≤ a ∧ a ≤ 9223372036854775807 := by
  obtain ⟨a, h1, _, h2⟩ := DataW.trod_int ht h
  exact ⟨a, by simpa using h1, (wf_i64 h2).1, (wf_i64 h2).2⟩
theorem fld_ints {t e : TypeId} {v : Value} {n : Nat} {y : DataW H × List MemPlace} (ht : P.underlying t = some (.slice e)) (he : P.underlying e = some (.int .i64)) (hc : P.cellsOf e = 1)
    (h : DataW.trod enc P w base spare held n t [v] = some y) :
    ∃ A xs c, v = .slice A xs.length c ∧ xs.length ≤ c ∧ c ≤ maxLen ∧ Rd w w.heap.size A xs ∧ I64 xs := by
  rcases open_ints ht he hc h with ⟨hcs, _⟩ | ⟨x, l, c, zs, hcs, _, hl, hm, hz, _, hcell, hwz⟩
  · simp at hcs
    exact ⟨none, [], 0, by simpa using hcs, by simp, by simp [maxLen], fun h => absurd h (by simp), fun n hn => by simp at hn⟩
  · simp at hcs
    have hlz : l ≤ zs.length := by rw [hz]; split <;> omega
    refine ⟨some x, zs.take l, c, by rw [List.length_take, Nat.min_eq_left hlz]; exact hcs, by rw [List.length_take]; omega, hm, fun h0 => ?_, fun n hn => wf_i64 (hwz n (List.mem_of_mem_take hn))⟩
    have hb : ∀ j, j < (zs.take l).length → w.cell? (x.add j) = some (.int .i64 ((zs.take l).getD j 0)) := fun j hj => by
      have hj' : j < l := by rw [List.length_take] at hj; omega
      rw [hcell j (by omega)]
      simp [List.getD, hj']
    refine ⟨x, rfl, ?_, hb⟩
    have := World.block_lt_of_cell? w _ (hb 0 h0)
    have e : (x.add 0).block = x.block := by unfold Addr.add; split <;> rfl
    rwa [e] at this
theorem trod_of_Trod {t : TypeId} {v : Value} {d : DataW H} {ps : List MemPlace} (h : DataW.Trod enc P w base spare held t v d ps) (hv : v.cells = #[v]) :
    ∃ n, DataW.trod enc P w base spare held n t [v] = some (d, ps) := by
  obtain ⟨n, hn⟩ := h
  exact ⟨n, by rw [hv] at hn; exact hn⟩
theorem arg_int {r : Reach} {b0 : Nat} {t : TypeId} {v : Value} {d : DataW H} {ps : List MemPlace} (ht : P.underlying t = some (.int .i64)) (hval : Value.okWide P w r b0 t v) (hd : DataW.Trod enc P w base spare held t v d ps) :
    ∃ a, v = .int .i64 a ∧ -9223372036854775808 ≤ a ∧ a ≤ 9223372036854775807 := by
  obtain ⟨a, h, _, _, h2⟩ := open_int ht hval hd
  exact ⟨a, h, (wf_i64 h2).1, (wf_i64 h2).2⟩
theorem arg_ints {r : Reach} {b0 : Nat} {t e : TypeId} {v : Value} {d : DataW H} {ps : List MemPlace} (ht : P.underlying t = some (.slice e)) (he : P.underlying e = some (.int .i64)) (hc : P.cellsOf e = 1)
    (hval : Value.okWide P w r b0 t v) (hd : DataW.Trod enc P w base spare held t v d ps) :
    ∃ A xs c, v = .slice A xs.length c ∧ xs.length ≤ c ∧ c ≤ maxLen ∧ Rd w w.heap.size A xs ∧ I64 xs := by
  obtain ⟨a, l, c, rfl⟩ := okWide_slice ht hval
  obtain ⟨n, hn⟩ := trod_of_Trod hd rfl
  exact fld_ints ht he hc hn
theorem arg_s2 {r : Reach} {b0 : Nat} {t : TypeId} {f0 f1 : Field} {v : Value} {d : DataW H} {p : List MemPlace} (hs : P.underlying t = some (.struct #[f0, f1])) (hone : oneCellFields P #[f0, f1] = true) (hC : P.cellsOf t = 2)
    (k0 : P.underlying f0.type = some (.int .i64)) (k1 : P.underlying f1.type = some (.int .i64)) (hv : Value.okWide P w r b0 t v) (h : DataW.Trod enc P w base spare held t v d p) :
    ∃ a b, v = .agg #[.int .i64 a, .int .i64 b] ∧ -9223372036854775808 ≤ a ∧ a ≤ 9223372036854775807 ∧ -9223372036854775808 ≤ b ∧ b ≤ 9223372036854775807 := by
  obtain ⟨v0, v1, y0, y1, n, rfl, _, _, h0, h1⟩ := open_agg2 hs hone hC hv h
  obtain ⟨a, rfl, ha, ha'⟩ := fld_int k0 h0
  obtain ⟨b, rfl, hb, hb'⟩ := fld_int k1 h1
  exact ⟨a, b, rfl, ha, ha', hb, hb'⟩
theorem arg_s3 {r : Reach} {b0 : Nat} {t : TypeId} {f0 f1 f2 : Field} {v : Value} {d : DataW H} {p : List MemPlace} (hs : P.underlying t = some (.struct #[f0, f1, f2])) (hone : oneCellFields P #[f0, f1, f2] = true) (hC : P.cellsOf t = 3)
    (k0 : P.underlying f0.type = some (.int .i64)) (k1 : P.underlying f1.type = some (.int .i64)) (k2 : P.underlying f2.type = some (.int .i64)) (hv : Value.okWide P w r b0 t v) (h : DataW.Trod enc P w base spare held t v d p) :
    ∃ a b c, v = .agg #[.int .i64 a, .int .i64 b, .int .i64 c] ∧ -9223372036854775808 ≤ a ∧ a ≤ 9223372036854775807 ∧ -9223372036854775808 ≤ b ∧ b ≤ 9223372036854775807 ∧ -9223372036854775808 ≤ c ∧ c ≤ 9223372036854775807 := by
  obtain ⟨v0, v1, v2, y0, y1, y2, n, rfl, _, _, h0, h1, h2⟩ := open_agg3 hs hone hC hv h
  obtain ⟨a, rfl, ha, ha'⟩ := fld_int k0 h0
  obtain ⟨b, rfl, hb, hb'⟩ := fld_int k1 h1
  obtain ⟨c, rfl, hc, hc'⟩ := fld_int k2 h2
  exact ⟨a, b, c, rfl, ha, ha', hb, hb', hc, hc'⟩
end
theorem laidOut : laidOutB Tryz.prog = true := by kernel_rfl
theorem own : ownKnob Tryz.prog.godebug = none := by kernel_rfl
end Go.Proofs.YtgkijkenbjjnmaaGreatDoor

/- Contracts of the small tests of numbers, and of the tests of a Comb and of an Accumulator: each returns the same plain test. -/
namespace Go.Proofs.YtgkijkenbjjnmaaGreatDoor
open Go.RowKit
set_option linter.unusedVariables false
set_option linter.unusedSimpArgs false
theorem l1In_any (x a b : Int) (w : World) :
    Calls Tryz.prog 108 #[.int .i64 x, .int .i64 a, .int .i64 b] w fun e w' => e = .returned (.bool (inB x a b)) ∧ w = w' := by
  go_enter Tryz.func108, Tryz.ntmps108
  go_wp2
  all_goals (go_ret; exact ⟨ret_bool (by simp [inB]; try omega), rfl⟩)
theorem isOrder_any (x : Int) (w : World) :
    Calls Tryz.prog 134 #[.int .i64 x] w fun e w' => e = .returned (.bool (inB x 0 6)) ∧ w = w' := by
  go_enter Tryz.func134, Tryz.ntmps134
  go_wp2
  all_goals (go_ret; exact ⟨ret_bool (by simp [inB]; try omega), rfl⟩)
theorem isSample_any (x : Int) (w : World) :
    Calls Tryz.prog 93 #[.int .i64 x] w fun e w' => e = .returned (.bool (inB x (-1099511627776) 1099511627776)) ∧ w = w' := by
  go_enter Tryz.func93, Tryz.ntmps93
  go_wp2
  all_goals (go_ret; exact ⟨ret_bool (by simp [inB]; try omega), rfl⟩)
theorem l1Sample_any (x : Int) (w : World) :
    Calls Tryz.prog 103 #[.int .i64 x] w fun e w' => e = .returned (.bool (inB x (-1099511627776) 1099511627776)) ∧ w = w' := by
  go_enter Tryz.func103, Tryz.ntmps103
  go_wp2_with (go_at_call 108; refine (l1In_any _ _ _ _).mono ?_; rintro e w' ⟨rfl, rfl⟩)
  all_goals (go_ret; exact ⟨rfl, rfl⟩)
def accOk (o m : Int) : Bool := inB o 1 6 && inB m 2 1048576
def combOk (o r k : Int) : Bool := inB o 1 6 && inB r 1 100 && inB k 2 62
theorem comb_parts {o r k : Int} (h : combOk o r k = true) : (1 ≤ o ∧ o ≤ 6) ∧ (1 ≤ r ∧ r ≤ 100) ∧ 2 ≤ k ∧ k ≤ 62 := by
  simp [combOk, inB] at h; omega
end Go.Proofs.YtgkijkenbjjnmaaGreatDoor

/- Words for slices of ints: one that reads as a list, one that the call owns; their laws over calls that keep all that there was. -/
namespace Go.Proofs.YtgkijkenbjjnmaaGreatDoor
open Go.RowKit
set_option linter.unusedVariables false

theorem getD_at {xs : List Int} {k : Nat} (h : k < xs.length) : xs.getD k 0 = xs[k] := by simp [h]
def ints (xs : List Int) : List Value := xs.map (Value.int .i64)
theorem ints_length (xs : List Int) : (ints xs).length = xs.length := by simp [ints]
theorem ints_append (xs ys : List Int) : ints (xs ++ ys) = ints xs ++ ints ys := by simp [ints]
theorem ints_get {xs : List Int} {j : Nat} (h : j < xs.length) : (ints xs)[j]? = some (.int .i64 (xs.getD j 0)) := by
  simp [ints, h]
theorem ints_set (xs : List Int) (j : Nat) (v : Int) : (ints xs).set j (.int .i64 v) = ints (xs.set j v) := by simp [ints, List.map_set]
theorem ints_replicate (n : Nat) : List.replicate n (Value.int .i64 0) = ints (List.replicate n 0) := by simp [ints]

/-- The slice '.slice A xs.length c' begins at the head of a row, in a block from B on, that is not frozen; it reads as xs. -/
def Own (w : World) (B : Nat) (A : Option Addr) (c : Nat) (xs : List Int) : Prop := w.ownsRow B 3 1 (.slice A xs.length c) xs.length (ints xs)

theorem below_drewN' {B : Nat} {a w : World} (h : Below B a w) (n : Nat) : Below B a (w.drewN n) := ⟨h.os, h.tape, h.output, h.size, h.block⟩
section
variable {w w' : World} {B B' : Nat} {A : Option Addr} {c : Nat} {xs ys : List Int}
theorem block_add (a : Addr) (n : Nat) : (a.add n).block = a.block := by unfold Addr.add; split <;> rfl

theorem Rd.keep (h : Rd w B A xs) (hk : ∀ p : Addr, p.block < B → w'.cell? p = w.cell? p) : Rd w' B A xs := fun h0 => by
  obtain ⟨ad, e, hb, hc⟩ := h h0
  exact ⟨ad, e, hb, fun j hj => (hk _ (by rw [block_add]; exact hb)).trans (hc j hj)⟩
theorem Rd.more (h : Rd w B A xs) (hB : B ≤ B') : Rd w B' A xs := fun h0 => by
  obtain ⟨ad, e, hb, hc⟩ := h h0
  exact ⟨ad, e, by omega, hc⟩
theorem Rd.below (h : Rd w B A xs) (hb : Below B w w') : Rd w' B A xs := h.keep fun _ hp => hb.cell hp
/-- Behind a call that keeps all that there was. -/
theorem Rd.past (h : Rd w w.heap.size A xs) (hb : Below w.heap.size w w') : Rd w' w'.heap.size A xs := (h.below hb).more hb.size
theorem Rd.nil : Rd w B A [] := fun h => absurd h (by simp)
theorem Rd.at_ {k : Nat} (h : Rd w B A xs) (hk : k < xs.length) : ∃ ad, A = some ad ∧ ad.block < B ∧ ∀ j, j < xs.length → w.cell? (ad.add j) = some (.int .i64 (xs.getD j 0)) := h (by omega)
theorem Rd.grown (h : Rd w B A xs) {row : Option Nat} (hg : w.grownBy w' row) (hB : B ≤ w.heap.size) (hr : ∀ a, A = some a → some a.block ≠ row) : Rd w' B A xs := fun h0 => by
  obtain ⟨ad, e, hb, hc⟩ := h h0
  refine ⟨ad, e, hb, fun j hj => ?_⟩
  rw [← hc j hj]
  exact World.cell?_of_block (hg.block _ (by rw [block_add]; omega) (by rw [block_add]; exact hr ad e))

theorem own_rd (h : Own w B A c xs) : Rd w w.heap.size A xs := fun h0 => by
  rcases h.2 with ⟨hv, hn⟩ | ⟨g, cap, cur, hv, hb, hh, _⟩
  · omega
  · injection hv with h1 h2 h3
    subst h1
    refine ⟨_, rfl, (Array.getElem?_eq_some_iff.1 hh).1, fun j hj => ?_⟩
    exact World.ownsRow.cells h rfl j _ (ints_get hj)
theorem own_nil (w : World) (B : Nat) : Own w B none 0 [] := World.ownsRow_nil w B _ _
theorem own_below (h : Own w B A c xs) {B' : Nat} (hb : Below B' w w') (hlt : ∀ a, A = some a → a.block < B') : Own w' B A c xs := by
  obtain ⟨h1, h2⟩ := h
  refine ⟨h1, ?_⟩
  rcases h2 with h2 | ⟨g, cap, cur, hv, hg, hh, r⟩
  · exact Or.inl h2
  · injection hv with e1 e2 e3
    exact Or.inr ⟨g, cap, cur, by rw [e1, e2, e3], hg, (hb.block g (hlt _ e1)).trans hh, r⟩
theorem own_lt (h : Own w B A c xs) : ∀ a, A = some a → B ≤ a.block ∧ a.block < w.heap.size := fun a e => by
  subst e
  exact World.ownsRow.lt h _ rfl
theorem own_past (h : Own w B A c xs) (hb : Below w.heap.size w w') : Own w' B A c xs := own_below h hb fun a e => (own_lt h a e).2
theorem own_mono (h : Own w B A c xs) (hB : B' ≤ B) : Own w B' A c xs := by
  obtain ⟨h1, h2⟩ := h
  refine ⟨h1, ?_⟩
  rcases h2 with h2 | ⟨g, cap, cur, hv, hg, r⟩
  · exact Or.inl h2
  · exact Or.inr ⟨g, cap, cur, hv, by omega, r⟩
theorem own_cap (h : Own w B A c xs) : xs.length ≤ c ∧ c ≤ maxLen := by
  rcases h.2 with ⟨hv, hn⟩ | ⟨g, cap, cur, hv, _, _, h1, h2, _⟩
  · injection hv with _ h2 h3
    subst h3
    exact ⟨by omega, by simp [maxLen]⟩
  · injection hv with _ _ h3
    omega
theorem own_grown (h : Own w B A c xs) {row : Option Nat} (hg : w.grownBy w' row) (hr : ∀ a, A = some a → some a.block ≠ row) : Own w' B A c xs := by
  obtain ⟨h1, h2⟩ := h
  refine ⟨h1, ?_⟩
  rcases h2 with h2 | ⟨g, cap, cur, hv, hgg, hh, r⟩
  · exact Or.inl h2
  · have hlt := (Array.getElem?_eq_some_iff.1 hh).1
    injection hv with e1 e2 e3
    exact Or.inr ⟨g, cap, cur, by rw [e1, e2, e3], hgg, (hg.block g hlt (hr _ e1)).trans hh, r⟩
/-- What the laws on append and make leave, in my words. -/
theorem own_of_row {v : Value} {n : Nat} {es : List Value} (h : w.ownsRow B 3 1 v n es) (he : es = ints xs) (hn : n = xs.length) : ∃ A c, v = .slice A n c ∧ Own w B A c xs := by
  subst he; subst hn
  rcases h.2 with ⟨rfl, h0⟩ | ⟨g, cap, cur, rfl, _⟩
  · refine ⟨none, 0, by rw [h0], ?_⟩
    have : xs = [] := List.eq_nil_of_length_eq_zero h0
    subst this
    exact own_nil w B
  · exact ⟨_, _, rfl, h⟩
theorem own_head {k : Nat} (h : Own w B A c xs) (hk : k < xs.length) : ∃ g, A = some ⟨g, 0, none⟩ ∧ B ≤ g ∧ g < w.heap.size := by
  rcases h.2 with ⟨hv, hn⟩ | ⟨g, cap, cur, hv, hb, hh, _⟩
  · omega
  · injection hv with h1
    exact ⟨g, h1, hb, (Array.getElem?_eq_some_iff.1 hh).1⟩
theorem own_cell {g j : Nat} (h : Own w B (some ⟨g, 0, none⟩) c xs) (hj : j < xs.length) : w.cell? ⟨g, j, none⟩ = some (.int .i64 (xs.getD j 0)) :=
  (World.ownsRow.cellAt h j (by omega)).trans (ints_get hj)
theorem own_frozen {g : Nat} (h : Own w B (some ⟨g, 0, none⟩) c xs) (j : Nat) : w.frozen? ⟨g, j, none⟩ = false := World.ownsRow.frozenAt h j
theorem own_set {g : Nat} (h : Own w B (some ⟨g, 0, none⟩) c xs) (j : Nat) (v : Int) : Own (w.setCell ⟨g, j, none⟩ (.int .i64 v)) B (some ⟨g, 0, none⟩) c (xs.set j v) := by
  have := (World.ownsRow.stored h j (.int .i64 v)).1
  rw [ints_set] at this
  unfold Own
  rw [List.length_set]
  exact this
/-- A new row that make lays. -/
theorem own_made (w : World) (n : Nat) (hB : B ≤ w.heap.size) (hn : n ≤ maxLen) : Own (w.alloc (.cells (madeCells #[.int .i64 0] n) 3)) B (some ⟨w.heap.size, 0, none⟩) n (List.replicate n 0) := by
  have e := ints_replicate n
  have := World.ownsRow_lit (base := B) (e := 3) (size := 1) w (madeCells #[.int .i64 0] n) n hB hn (by simp [size_madeCells])
  unfold Own
  rw [List.length_replicate, ← e, ← toList_madeCells_one]
  exact this
/-- A new row that is written out. -/
theorem own_cells (w : World) (cs : Array Value) (hB : B ≤ w.heap.size) (h : cs.toList = ints xs) (hn : xs.length ≤ maxLen) : Own (w.alloc (.cells cs 3)) B (some ⟨w.heap.size, 0, none⟩) xs.length xs := by
  have hs : cs.size = xs.length * 1 := by rw [← Array.length_toList, h, ints_length]; omega
  have := World.ownsRow_lit (base := B) (e := 3) (size := 1) w cs xs.length hB hn hs
  unfold Own
  rw [← h]
  exact this
end
theorem intInfo : (Tryz.prog.info? 3).map (fun i => (i.zero, i.size, i.bytes)) = some (some (.int .i64 0), 1, 8) := by kernel_rfl

/-- Two slices lie apart. -/
def Apart (A A' : Option Addr) : Prop := ∀ a a', A = some a → A' = some a' → a.block ≠ a'.block
def row (A : Option Addr) : Option Nat := A.map (·.block)
/-- The world has grown, and of what there was at most the block of A has turned. -/
def Wrote (w w' : World) (A : Option Addr) : Prop := w.grownBy w' (row A)
theorem apart_row {A A' : Option Addr} (h : Apart A A') : ∀ a, A = some a → A' ≠ none → some a.block ≠ row A' := by
  intro a e hn e'
  cases A' with
  | none => exact hn rfl
  | some a' => exact h a a' e rfl (by simpa [row] using e')
theorem own_wrote {w w' : World} {B c : Nat} {A A' : Option Addr} {xs : List Int} (h : Own w B A c xs) (hw : Wrote w w' A') (ha : Apart A A') : Own w' B A c xs :=
  own_grown h hw fun a e => by
    cases A' with
    | none => simp [row]
    | some a' => exact apart_row ha a e (by simp)
theorem rd_wrote {w w' : World} {A A' : Option Addr} {xs : List Int} (h : Rd w w.heap.size A xs) (hw : Wrote w w' A') (ha : Apart A A') : Rd w' w'.heap.size A xs :=
  (h.grown hw (Nat.le_refl _) fun a e => by
    cases A' with
    | none => simp [row]
    | some a' => exact apart_row ha a e (by simp)).more hw.size
theorem below_wrote {w w' : World} {B : Nat} {A : Option Addr} (hw : Wrote w w' A) (hB : B ≤ w.heap.size) (ha : ∀ a, A = some a → B ≤ a.block) : Below B w w' :=
  (Below.refl _ _).grown hw hB fun k hk => by
    cases A with
    | none => simp [row] at hk
    | some a => simp [row] at hk; subst hk; exact ha a rfl
def Lo (A : Option Addr) (n : Nat) : Prop := ∀ a, A = some a → n ≤ a.block
def Hi (A : Option Addr) (n : Nat) : Prop := ∀ a, A = some a → a.block < n
theorem own_lo {w : World} {B c : Nat} {A : Option Addr} {xs : List Int} (h : Own w B A c xs) : Lo A B := fun a e => (own_lt h a e).1
theorem own_hi {w : World} {B c : Nat} {A : Option Addr} {xs : List Int} (h : Own w B A c xs) : Hi A w.heap.size := fun a e => (own_lt h a e).2
theorem lo_le {A : Option Addr} {n m : Nat} (h : Lo A n) (hm : m ≤ n) : Lo A m := fun a e => Nat.le_trans hm (h a e)
theorem apart_lt {A A' : Option Addr} {n m : Nat} (h : Hi A n) (k : Lo A' m) (hm : n ≤ m) : Apart A A' := fun a a' e e' => by have := h a e; have := k a' e'; omega
theorem apart_gt {A A' : Option Addr} {n m : Nat} (h : Lo A n) (k : Hi A' m) (hm : m ≤ n) : Apart A A' := fun a a' e e' => by have := h a e; have := k a' e'; omega
theorem apart_symm {A A' : Option Addr} (h : Apart A A') : Apart A' A := fun a a' e e' => Ne.symm (h a' a e' e)
theorem blk_wrote {w w' : World} {g n : Nat} {t : TypeId} {cs : Array Value} {A : Option Addr} (h : Blk w g t cs) (hw : Wrote w w' A) (hl : Lo A n) (hg : g < n) : Blk w' g t cs :=
  h.grown hw fun e => by
    cases A with
    | none => simp [row] at e
    | some a => simp [row] at e; have := hl a rfl; omega
end Go.Proofs.YtgkijkenbjjnmaaGreatDoor

/- Contracts of the laws' own helpers on slices of ints. -/
namespace Go.Proofs.YtgkijkenbjjnmaaGreatDoor
open Go.RowKit
set_option linter.unusedVariables false
set_option linter.unusedSimpArgs false
def RetSl (w : World) (xs : List Int) (e : Ending) (w' : World) : Prop := ∃ A c, e = .returned (.slice A xs.length c) ∧ Own w' w.heap.size A c xs ∧ Below w.heap.size w w'

theorem take_set (xs ys : List Int) (k : Nat) (hk : k < ys.length) (h : ys.take k = xs.take k) (hx : k < xs.length) : (ys.set k xs[k]).take (k + 1) = xs.take (k + 1) := by
  apply List.ext_getElem?
  intro j
  have h0 : ∀ i, i < k → ys[i]? = xs[i]? := fun i hi => by
    have := congrArg (·[i]?) h
    simpa [List.getElem?_take, hi] using this
  rw [List.getElem?_take, List.getElem?_take]
  split
  · rw [List.getElem?_set]
    split
    · rename_i e
      subst e
      simp [hk, hx]
    · exact h0 j (by omega)
  · rfl
theorem make_ints (n : Nat) (hn : n ≤ 1099511627776) : ∀ W : World, (Instr.makeSlice 25 (.int .i64 (n : Int)) (.int .i64 (n : Int))).run Tryz.prog W = .ok (.slice (some ⟨W.heap.size, 0, none⟩) n n) (W.alloc (.cells (madeCells #[.int .i64 0] n) 3)) :=
  fun W => run_make_row' 25 3 (.int .i64 0) 8 Tryz.underlying25 intInfo rfl _ _ n (by omega) (by omega) W
set_option maxHeartbeats 400000 in
theorem toIntS_any (A : Option Addr) (c : Nat) (xs : List Int) (w : World) (hr : Rd w w.heap.size A xs) (hn : xs.length ≤ 1048576) :
    Calls Tryz.prog 78 #[.slice A xs.length c] w (RetSl w xs) := by
  have hmk := make_ints xs.length (by omega)
  go_enter Tryz.func78, Tryz.ntmps78
  go_wp2
  go_loopw [4] (fun i wr => ∃ (k : Nat) (ys : List Int), k ≤ xs.length ∧ i = .int .i64 k ∧ ys.length = xs.length ∧ Hid (ys.take k = xs.take k) ∧ Own wr w.heap.size (some ⟨w.heap.size, 0, none⟩) xs.length ys ∧ Below w.heap.size w wr) (fun i _ => xs.length - (intOf i).toNat)
  case atStart => exact ⟨0, List.replicate xs.length 0, by omega, rfl, by simp, Lib.hid (by simp), own_made w _ (Nat.le_refl _) (by simp only [maxLen]; omega), (Below.refl _ _).alloc (Nat.le_refl _) _⟩
  case round =>
    obtain ⟨k, ys, hk, rfl, hl, hy, hown, hb⟩ := hrel
    by_cases hlt : k < xs.length
    · obtain ⟨ad, rfl, hbl, hcell⟩ := hr.at_ hlt
      have hc1 : wr.cell? (ad.add k) = some (.int .i64 (xs.getD k 0)) := (hb.cell (by rw [block_add]; exact hbl)).trans (hcell k hlt)
      have hc2 := own_cell hown (j := k) (by omega)
      have hf2 := own_frozen hown k
      have hl1 : ys.length ≤ xs.length := by omega
      have hl2 : xs.length ≤ ys.length := by omega
      clear hl hr hcell
      go_wp2
      go_roundw
      case rel => exact ⟨k + 1, ys.set k xs[k], by omega, by go_num, by simp; omega, Lib.hid (take_set xs ys k (by omega) hy.out hlt), own_set hown k _, hb.setCell (by simp) _⟩
      case measure => simp [intOf]; omega
    · go_wp2
      go_ret
      have e : ys = xs := by have := hy.out; rwa [List.take_of_length_le (by omega), List.take_of_length_le (by omega)] at this
      subst e
      exact ⟨_, _, rfl, hown, hb⟩
/-- Where two lists of one length part, if they do. -/
def EqTo (xs ys : List Int) (k : Nat) : Prop := xs.take k = ys.take k
theorem eqTo_step {xs ys : List Int} {k : Nat} (h : EqTo xs ys k) (h1 : k < xs.length) (h2 : k < ys.length) (e : xs[k] = ys[k]) : EqTo xs ys (k + 1) := by
  unfold EqTo at *
  rw [List.take_succ_eq_append_getElem h1, List.take_succ_eq_append_getElem h2, h, e]
def eqB (xs ys : List Int) : Bool := decide (xs = ys)
theorem eqB_ne_len {xs ys : List Int} (h : xs.length ≠ ys.length) : eqB xs ys = false := by simp [eqB]; intro e; exact h (by rw [e])
theorem eqB_ne_at {xs ys : List Int} {k : Nat} (h1 : k < xs.length) (h2 : k < ys.length) (e : xs[k] ≠ ys[k]) : eqB xs ys = false := by simp [eqB]; intro h; subst h; exact e rfl
theorem eqB_self (xs : List Int) : eqB xs xs = true := by simp [eqB]
theorem eqB_true {xs ys : List Int} (h : eqB xs ys = true) : xs = ys := by simpa [eqB] using h
theorem eqTo_all {xs ys : List Int} (h : EqTo xs ys xs.length) (hl : xs.length = ys.length) : eqB xs ys = true := by
  unfold EqTo at h
  rw [List.take_of_length_le (by omega), List.take_of_length_le (by omega)] at h
  simp [eqB, h]
set_option maxHeartbeats 400000 in
theorem eqIntS_any (A A' : Option Addr) (c c' : Nat) (xs ys : List Int) (w : World) (hx : Rd w w.heap.size A xs) (hy : Rd w w.heap.size A' ys) (hn : xs.length ≤ 9223372036854775807) :
    Calls Tryz.prog 80 #[.slice A xs.length c, .slice A' ys.length c'] w fun e w' => e = .returned (.bool (eqB xs ys)) ∧ Below w.heap.size w w' := by
  by_cases hl : xs.length = ys.length
  · have hl1 : xs.length ≤ ys.length := by omega
    have hl2 : ys.length ≤ xs.length := by omega
    have hd : (((xs.length : Nat) : Int) != ((ys.length : Nat) : Int)) = false := by simp; omega
    have Hl := Lib.hid hl
    clear hl
    go_enter Tryz.func80, Tryz.ntmps80
    go_wp2
    go_loopw [5] (fun i wr => ∃ k : Nat, k ≤ xs.length ∧ i = .int .i64 k ∧ EqTo xs ys k ∧ Below w.heap.size w wr) (fun i _ => xs.length - (intOf i).toNat)
    case atStart => exact ⟨0, by omega, rfl, by simp [EqTo], Below.refl _ _⟩
    case round =>
      obtain ⟨k, hk, rfl, he, hb⟩ := hrel
      by_cases hlt : k < xs.length
      · obtain ⟨ad, rfl, hbl, hcell⟩ := hx.at_ hlt
        obtain ⟨ad', rfl, hbl', hcell'⟩ := hy.at_ (k := k) (by omega)
        have hc1 : wr.cell? (ad.add k) = some (.int .i64 (xs.getD k 0)) := (hb.cell (by rw [block_add]; exact hbl)).trans (hcell k hlt)
        have hc2 : wr.cell? (ad'.add k) = some (.int .i64 (ys.getD k 0)) := (hb.cell (by rw [block_add]; exact hbl')).trans (hcell' k (by omega))
        have hlt' : k < ys.length := by omega
        clear hx hy hcell hcell'
        go_wp2
        go_quiet (fail)
        go_wp2
        · go_ret
          have hne : (xs[k] != ys[k]) = true := by assumption
          exact ⟨ret_bool (eqB_ne_at hlt hlt' (by simpa using hne)).symm, below_drewN' hb _⟩
        · have heq : (xs[k] != ys[k]) = false := by assumption
          go_roundw
          case rel => exact ⟨k + 1, by omega, by go_num, eqTo_step he hlt hlt' (by simpa using heq), below_drewN' hb _⟩
          case measure => simp [intOf]; omega
      · go_wp2
        go_ret
        obtain rfl : k = xs.length := by omega
        exact ⟨ret_bool (eqTo_all he Hl.out).symm, hb⟩
  · have hd : (((xs.length : Nat) : Int) != ((ys.length : Nat) : Int)) = true := by simp; omega
    go_enter Tryz.func80, Tryz.ntmps80
    go_wp2
    go_ret
    exact ⟨ret_bool (eqB_ne_len hl).symm, Below.refl _ _⟩
/-- xs with k, k + 1, .. -/
def marks (k : Int) : Nat → List Int
  | 0 => []
  | n + 1 => k :: marks (k + 1) n
theorem marks_length (n : Nat) : ∀ k, (marks k n).length = n := by
  induction n with
  | zero => intro k; rfl
  | succ n ih => intro k; simp [marks, ih]
theorem marks_get (n : Nat) : ∀ (k : Int) (j : Nat), j < n → (marks k n)[j]? = some (k + j) := by
  induction n with
  | zero => intro k j h; omega
  | succ n ih =>
    intro k j h
    cases j with
    | zero => simp [marks]
    | succ j =>
      rw [marks, List.getElem?_cons_succ, ih (k + 1) j (by omega)]
      congr 1
      omega
def RetMark (w : World) (A : Option Addr) (c n : Nat) (k : Int) (e : Ending) (w' : World) : Prop :=
  e = .returned (.int .i64 (k + n)) ∧ Own w' 0 A c (marks k n) ∧ Wrote w w' A
theorem set_marks {ys : List Int} {n j : Nat} {k : Int} (hl : ys.length = n) (hj : j < n) (h : ys.take j = (marks k n).take j) : (ys.set j (k + j)).take (j + 1) = (marks k n).take (j + 1) := by
  have hm := marks_length n k
  have e := marks_get n k j hj
  have e' : (marks k n)[j]'(by omega) = k + j := by
    rw [List.getElem?_eq_getElem (by omega)] at e
    exact Option.some.inj e
  rw [← e']
  exact take_set _ _ _ (by omega) h (by omega)
theorem wrote_set {w wr : World} {g j : Nat} {A : Option Addr} (h : Wrote w wr A) (e : A = some ⟨g, 0, none⟩) (v : Value) : Wrote w (wr.setCell ⟨g, j, none⟩ v) A := by
  subst e
  exact ⟨h.os, h.tape, h.output, by simpa [World.setCell] using h.size, fun i hi hne => (Below.heap_setCell wr ⟨g, j, none⟩ v i (by
    rintro rfl
    exact hne rfl)).trans (h.block i hi hne)⟩
set_option maxHeartbeats 400000 in
theorem markIntS_any (A : Option Addr) (B c : Nat) (xs : List Int) (k : Int) (w : World) (hx : Own w B A c xs) (hn : xs.length ≤ 1099511627776) (k1 : 0 ≤ k) (k2 : k ≤ 4398046511104) :
    Calls Tryz.prog 82 #[.slice A xs.length c, .int .i64 k] w (RetMark w A c xs.length k) := by
  go_enter Tryz.func82, Tryz.ntmps82
  go_wp2
  go_loopw [1, 5] (fun q i wr => ∃ (j : Nat) (ys : List Int), j ≤ xs.length ∧ i = .int .i64 j ∧ q = .int .i64 (k + j) ∧ Hid (ys.length = xs.length) ∧ Hid (ys.take j = (marks k xs.length).take j) ∧ Hid (Own wr 0 A c ys) ∧ Wrote w wr A) (fun _ i _ => xs.length - (intOf i).toNat)
  case atStart => exact ⟨0, xs, by omega, rfl, by simp, rfl, Lib.hid (by simp), own_mono hx (by omega), World.grownBy.refl _ _⟩
  case round =>
    obtain ⟨j, ys, hj, rfl, rfl, hl, hy, hown, hw⟩ := hrel
    by_cases hlt : j < xs.length
    · obtain ⟨g, rfl, _, _⟩ := own_head hx hlt
      have hlt' : j < ys.length := by have := hl.out; omega
      have hc2 := own_cell hown.out hlt'
      have hf2 := own_frozen hown.out j
      clear hx
      go_wp2
      go_roundw
      case rel => exact ⟨j + 1, ys.set j (k + j), by omega, by go_num, by go_num, by have := hl.out; simp [Hid, this], set_marks hl.out hlt hy.out, own_set hown.out j _, wrote_set hw rfl _⟩
      case measure => simp [intOf]; omega
    · obtain rfl : j = xs.length := by omega
      go_wp2
      go_ret
      have e : ys = marks k xs.length := by
        have := hy.out
        rwa [List.take_of_length_le (by have := hl.out; omega), List.take_of_length_le (by rw [marks_length]; omega)] at this
      refine ⟨rfl, ?_, hw⟩
      rw [← e]
      exact hown.out
set_option maxHeartbeats 400000 in
theorem heldIntS_any (A : Option Addr) (c : Nat) (n : Nat) (k : Int) (w : World) (hx : Rd w w.heap.size A (marks k n)) (hn : n ≤ 1099511627776) (k1 : 0 ≤ k) (k2 : k ≤ 4398046511104) :
    Calls Tryz.prog 84 #[.slice A n c, .int .i64 k] w fun e w' => e = .returned (.int .i64 (k + n)) ∧ w = w' := by
  go_enter Tryz.func84, Tryz.ntmps84
  go_wp2
  go_loop [1, 5] (fun q i => ∃ j : Nat, j ≤ n ∧ i = .int .i64 j ∧ q = .int .i64 (k + j)) (fun _ i => n - (intOf i).toNat)
  case atStart => exact ⟨0, by omega, rfl, by simp⟩
  case round =>
    obtain ⟨j, hj, rfl, rfl⟩ := hrel
    by_cases hlt : j < n
    · obtain ⟨ad, rfl, hbl, hcell⟩ := hx.at_ (k := j) (by rw [marks_length]; exact hlt)
      have hc1 : w.cell? (ad.add j) = some (.int .i64 (k + j)) := by
        rw [hcell j (by rw [marks_length]; exact hlt), List.getD, marks_get n k j hlt]; rfl
      clear hx hcell
      go_wp2
      go_round
      case rel => exact ⟨j + 1, by omega, by go_num, by go_num⟩
      case measure => simp [intOf]; omega
    · obtain rfl : j = n := by omega
      go_wp2
      go_ret
      exact ⟨rfl, rfl⟩
theorem eqIntS_same (A A' : Option Addr) (c c' : Nat) (xs : List Int) (w : World) (hx : Rd w w.heap.size A xs) (hy : Rd w w.heap.size A' xs) (hn : xs.length ≤ 1099511627776) :
    Calls Tryz.prog 80 #[.slice A xs.length c, .slice A' xs.length c'] w fun e w' => e = .returned (.bool true) ∧ Below w.heap.size w w' := by
  have h := eqIntS_any A A' c c' xs xs w hx hy (by omega)
  rwa [eqB_self] at h
end Go.Proofs.YtgkijkenbjjnmaaGreatDoor

/- Contracts of the tests of sequences and words, of SumOf and PowerOf: each returns the same plain function. -/
namespace Go.Proofs.YtgkijkenbjjnmaaGreatDoor
open Go.RowKit
set_option linter.unusedVariables false
set_option linter.unusedSimpArgs false
def sampleB (v : Int) : Bool := inB v (-1099511627776) 1099511627776
def bitB (v : Int) : Bool := inB v 0 1
def seqOk (xs : List Int) : Bool := xs.all sampleB && decide (xs.length ≤ 1000)
def wordOk (xs : List Int) : Bool := xs.all bitB && decide (xs.length ≤ 1000)
/-- The first k are all so. -/
def AllTo (p : Int → Bool) (xs : List Int) (k : Nat) : Prop := (xs.take k).all p = true
theorem allTo_zero (p : Int → Bool) (xs : List Int) : AllTo p xs 0 := by simp [AllTo]
theorem allTo_step {p : Int → Bool} {xs : List Int} {k : Nat} (h : AllTo p xs k) (hk : k < xs.length) (e : p xs[k] = true) : AllTo p xs (k + 1) := by
  unfold AllTo at *
  rw [List.take_succ_eq_append_getElem hk, List.all_append, h]
  simp [e]
theorem allTo_end {p : Int → Bool} {xs : List Int} (h : AllTo p xs xs.length) : xs.all p = true := by
  unfold AllTo at h
  rwa [List.take_of_length_le (by omega)] at h
theorem all_no {p : Int → Bool} {xs : List Int} {k : Nat} (hk : k < xs.length) (e : p xs[k] = false) : xs.all p = false := by
  rw [List.all_eq_false]
  exact ⟨xs[k], List.getElem_mem hk, by simp [e]⟩
theorem all_at {p : Int → Bool} {xs : List Int} (h : xs.all p = true) {k : Nat} (hk : k < xs.length) : p xs[k] = true := List.all_eq_true.1 h _ (List.getElem_mem hk)
theorem seqOk_no {xs : List Int} {k : Nat} (hk : k < xs.length) (e : sampleB xs[k] = false) : seqOk xs = false := by simp [seqOk, all_no hk e]
theorem wordOk_no {xs : List Int} {k : Nat} (hk : k < xs.length) (e : bitB xs[k] = false) : wordOk xs = false := by simp [wordOk, all_no hk e]
theorem seqOk_end {xs : List Int} (h : AllTo sampleB xs xs.length) : seqOk xs = decide ((xs.length : Int) ≤ 1000) := by
  simp only [seqOk, allTo_end h, Bool.true_and, decide_eq_decide]; omega
theorem wordOk_end {xs : List Int} (h : AllTo bitB xs xs.length) : wordOk xs = decide ((xs.length : Int) ≤ 1000) := by
  simp only [wordOk, allTo_end h, Bool.true_and, decide_eq_decide]; omega
theorem seqOk_at {xs : List Int} (h : seqOk xs = true) {k : Nat} (hk : k < xs.length) : -1099511627776 ≤ xs[k] ∧ xs[k] ≤ 1099511627776 := by
  simp only [seqOk, Bool.and_eq_true] at h
  exact inB_of (all_at h.1 hk)
theorem wordOk_at {xs : List Int} (h : wordOk xs = true) {k : Nat} (hk : k < xs.length) : 0 ≤ xs[k] ∧ xs[k] ≤ 1 := by
  simp only [wordOk, Bool.and_eq_true] at h
  exact inB_of (all_at h.1 hk)
theorem seqOk_len {xs : List Int} (h : seqOk xs = true) : xs.length ≤ 1000 := by simp only [seqOk, Bool.and_eq_true] at h; simpa using h.2
theorem wordOk_len {xs : List Int} (h : wordOk xs = true) : xs.length ≤ 1000 := by simp only [wordOk, Bool.and_eq_true] at h; simpa using h.2
theorem seqOk_of {xs : List Int} (h : ∀ x ∈ xs, -1099511627776 ≤ x ∧ x ≤ 1099511627776) (hl : xs.length ≤ 1000) : seqOk xs = true := by
  simp only [seqOk, Bool.and_eq_true, List.all_eq_true]
  exact ⟨fun x hx => inB_true (h x hx).1 (h x hx).2, by simpa using hl⟩
theorem wordOk_of {xs : List Int} (h : ∀ x ∈ xs, 0 ≤ x ∧ x ≤ 1) (hl : xs.length ≤ 1000) : wordOk xs = true := by
  simp only [wordOk, Bool.and_eq_true, List.all_eq_true]
  exact ⟨fun x hx => inB_true (h x hx).1 (h x hx).2, by simpa using hl⟩
theorem seqOk_mem {xs : List Int} (h : seqOk xs = true) : ∀ x ∈ xs, -1099511627776 ≤ x ∧ x ≤ 1099511627776 := fun x hx => by
  simp only [seqOk, Bool.and_eq_true, List.all_eq_true] at h
  exact inB_of (h.1 x hx)
theorem wordOk_mem {xs : List Int} (h : wordOk xs = true) : ∀ x ∈ xs, 0 ≤ x ∧ x ≤ 1 := fun x hx => by
  simp only [wordOk, Bool.and_eq_true, List.all_eq_true] at h
  exact inB_of (h.1 x hx)
theorem wordOk_seqOk {xs : List Int} (h : wordOk xs = true) : seqOk xs = true := seqOk_of (fun x hx => by have := wordOk_mem h x hx; omega) (wordOk_len h)
theorem specIsSequence_any (A : Option Addr) (c : Nat) (xs : List Int) (w : World) (hr : Rd w w.heap.size A xs) (hn : xs.length ≤ 9223372036854775807) :
    Calls Tryz.prog 58 #[.slice A xs.length c] w fun e w' => e = .returned (.bool (seqOk xs)) ∧ w = w' := by
  go_enter Tryz.func58, Tryz.ntmps58
  go_wp2
  go_loop [7] (fun i => ∃ k : Nat, k ≤ xs.length ∧ i = .int .i64 k ∧ AllTo sampleB xs k) (fun i => xs.length - (intOf i).toNat)
  case atStart => exact ⟨0, by omega, rfl, allTo_zero _ _⟩
  case round =>
    obtain ⟨k, hk, rfl, ha⟩ := hrel
    by_cases hlt : k < xs.length
    · obtain ⟨ad, rfl, hbl, hcell⟩ := hr.at_ hlt
      have hc1 := hcell k hlt
      clear hr hcell
      rcases Bool.eq_false_or_eq_true (inB xs[k] (-1099511627776) 1099511627776) with hv | hv
      · go_wp2_with (go_at_call 103; refine (l1Sample_any _ _).mono ?_; rintro e w' ⟨rfl, rfl⟩)
        go_round
        case rel => exact ⟨k + 1, by omega, by go_num, allTo_step ha hlt hv⟩
        case measure => simp [intOf]; omega
      · go_wp2_with (go_at_call 103; refine (l1Sample_any _ _).mono ?_; rintro e w' ⟨rfl, rfl⟩)
        go_ret
        exact ⟨ret_bool (seqOk_no hlt hv).symm, rfl⟩
    · obtain rfl : k = xs.length := by omega
      have e := seqOk_end ha
      have E := Lib.hid e
      clear e
      go_wp2
      go_ret
      exact ⟨ret_bool E.out.symm, rfl⟩
theorem implIsSequence_any (A : Option Addr) (c : Nat) (xs : List Int) (w : World) (hr : Rd w w.heap.size A xs) (hn : xs.length ≤ 9223372036854775807) :
    Calls Tryz.prog 49 #[.slice A xs.length c] w fun e w' => e = .returned (.bool (seqOk xs)) ∧ w = w' := by
  go_enter Tryz.func49, Tryz.ntmps49
  go_wp2
  go_loop [7] (fun i => ∃ k : Nat, k ≤ xs.length ∧ i = .int .i64 k ∧ AllTo sampleB xs k) (fun i => xs.length - (intOf i).toNat)
  case atStart => exact ⟨0, by omega, rfl, allTo_zero _ _⟩
  case round =>
    obtain ⟨k, hk, rfl, ha⟩ := hrel
    by_cases hlt : k < xs.length
    · obtain ⟨ad, rfl, hbl, hcell⟩ := hr.at_ hlt
      have hc1 := hcell k hlt
      clear hr hcell
      rcases Bool.eq_false_or_eq_true (inB xs[k] (-1099511627776) 1099511627776) with hv | hv
      · go_wp2_with (go_at_call 93; refine (isSample_any _ _).mono ?_; rintro e w' ⟨rfl, rfl⟩)
        go_round
        case rel => exact ⟨k + 1, by omega, by go_num, allTo_step ha hlt hv⟩
        case measure => simp [intOf]; omega
      · go_wp2_with (go_at_call 93; refine (isSample_any _ _).mono ?_; rintro e w' ⟨rfl, rfl⟩)
        go_ret
        exact ⟨ret_bool (seqOk_no hlt hv).symm, rfl⟩
    · obtain rfl : k = xs.length := by omega
      have e := seqOk_end ha
      have E := Lib.hid e
      clear e
      go_wp2
      go_ret
      exact ⟨ret_bool E.out.symm, rfl⟩
end Go.Proofs.YtgkijkenbjjnmaaGreatDoor

/- Contracts of slices.IndexFunc and slices.ContainsFunc at slices of ints, for whatever test that captures one variable. -/
namespace Go.Proofs.YtgkijkenbjjnmaaGreatDoor
open Go.RowKit
set_option linter.unusedVariables false
set_option linter.unusedSimpArgs false
def TestAt (fn : FuncId) (pa : Addr) (p : Int → Bool) (w : World) : Prop :=
  ∀ (v : Int) (W : World), Below w.heap.size w W → Calls Tryz.prog fn #[.int .i64 v, .pointer (some pa)] W fun e W' => e = .returned (.bool (p v)) ∧ Below W.heap.size W W'
def IdxEnd (w : World) (p : Int → Bool) (xs : List Int) (e : Ending) (w' : World) : Prop :=
  ∃ r : Int, e = .returned (.int .i64 r) ∧ decide (0 ≤ r) = xs.any p ∧ Below w.heap.size w w'
theorem run_enter {P : Program} {f : FuncId} {fn : Func} {c : Code} (hf : P.funcs[f]? = some fn) (hname : (fn.name == "runtime.NumGoroutine") = false) (hb : fn.body = some c) (args : Array Value) (w : World) :
    (callFunc f args).run P w = .ok (.enter f args) w := by
  have h1 : (fn.name = "runtime.NumGoroutine") = False := by simpa using hname
  simp [callFunc, hf, h1, hb]
theorem any_hit {p : Int → Bool} {xs : List Int} {k : Nat} (hk : k < xs.length) (e : p xs[k] = true) : xs.any p = true := List.any_eq_true.2 ⟨xs[k], List.getElem_mem hk, e⟩
theorem any_miss {p : Int → Bool} {xs : List Int} (h : AllTo (fun v => !p v) xs xs.length) : xs.any p = false := by
  have := allTo_end h
  rw [List.any_eq_false]
  intro x hx
  have := List.all_eq_true.1 this x hx
  simpa using this
def restB (m v : Int) : Bool := decide (0 ≤ v) && decide (v < m)
theorem any_not_all (p : Int → Bool) (xs : List Int) : (!xs.any fun v => !p v) = xs.all p := by
  induction xs with
  | nil => rfl
  | cons x xs ih => simp [← ih]
end Go.Proofs.YtgkijkenbjjnmaaGreatDoor

/- Contracts of the two IsRests and the two PowerOf. -/
namespace Go.Proofs.YtgkijkenbjjnmaaGreatDoor
open Go.RowKit
set_option linter.unusedVariables false
set_option linter.unusedSimpArgs false
def restsOk (o m : Int) (xs : List Int) : Bool := accOk o m && decide ((xs.length : Int) = o) && xs.all (restB m)
theorem restB_in {m v : Int} : inB v 0 (m - 1) = restB m v := by
  rw [Bool.eq_iff_iff]; simp [inB, restB]; omega
theorem acc_parts {o m : Int} (h : accOk o m = true) : (1 ≤ o ∧ o ≤ 6) ∧ 2 ≤ m ∧ m ≤ 1048576 := by simp [accOk, inB] at h; omega
theorem restsOk_parts {o m : Int} {xs : List Int} (h : restsOk o m xs = true) : ((1 ≤ o ∧ o ≤ 6) ∧ 2 ≤ m ∧ m ≤ 1048576) ∧ (xs.length : Int) = o ∧ ∀ x ∈ xs, 0 ≤ x ∧ x < m := by
  simp only [restsOk, Bool.and_eq_true, List.all_eq_true] at h
  refine ⟨acc_parts h.1.1, by simpa using h.1.2, fun x hx => ?_⟩
  have := h.2 x hx
  simpa [restB] using this
theorem restsOk_noAcc {o m : Int} {xs : List Int} (h : accOk o m = false) : restsOk o m xs = false := by simp [restsOk, h]
theorem restsOk_no {o m : Int} {xs : List Int} {k : Nat} (hk : k < xs.length) (h : restB m xs[k] = false) : restsOk o m xs = false := by
  simp only [restsOk, all_no hk h, Bool.and_false]
theorem restsOk_end {o m : Int} {xs : List Int} (h : accOk o m = true) (ha : AllTo (restB m) xs xs.length) : restsOk o m xs = ((xs.length : Int) == o) := by
  simp only [restsOk, h, allTo_end ha, Bool.true_and, Bool.and_true]
  rw [Bool.eq_iff_iff]; simp
theorem restsOk_all {o m : Int} {xs : List Int} (h : accOk o m = true) (hl : ((xs.length : Int) == o) = true) : restsOk o m xs = xs.all (restB m) := by
  simp only [restsOk, h, Bool.true_and]
  simp only [beq_iff_eq] at hl
  simp [hl]
theorem restsOk_noLen {o m : Int} {xs : List Int} (hl : ((xs.length : Int) == o) = false) : restsOk o m xs = false := by
  simp only [beq_eq_false_iff_ne] at hl
  simp [restsOk, hl]
end Go.Proofs.YtgkijkenbjjnmaaGreatDoor

/- The law of append of one int to a list that the call owns, as the walk meets it: a new block with the int, then the append. -/
namespace Go.Proofs.YtgkijkenbjjnmaaGreatDoor
open Go.RowKit
set_option linter.unusedVariables false
/-- Where a list lies behind an append: where it lay, or in a block from n on. -/
def Moved (A A' : Option Addr) (n : Nat) : Prop := row A' = row A ∨ Lo A' n
theorem int_row : ∃ i : TypeInfo, Tryz.prog.info? 3 = some i ∧ i.zero = some (.int .i64 0) ∧ i.size = 1 ∧ i.bytes = 8 := by
  obtain ⟨i0, hi, hz0, hz1, hz2⟩ := info_parts intInfo
  exact ⟨i0, hi, hz0, hz1, hz2⟩
theorem app_new {w : World} {ops : Array Oper} {rest : List Oper} {o : Oper} {a : Act} {Q : Exit → Act → World → Prop} (hgd : o.guard = none) (s x : Operand)
    (ho : o.op = .call { callee := .builtin .append, args := #[s, x], argTypes := #[25, 25] })
    (B : Nat) (A : Option Addr) (c n : Nat) (xs : List Int) (v : Int) (hl : xs.length = n) (hs : a.eval s = .slice A n c) (hown : Own w B A c xs) (hx : a.eval x = .slice (some ⟨w.heap.size, 0, none⟩) 1 1)
    (hn : n ≤ 1099511627776) (hB : B ≤ w.heap.size)
    (h : ∀ A' c' w', Own w' B A' c' (xs ++ [v]) → Wrote w w' A → Moved A A' w.heap.size → wpList Tryz.prog ops Q rest (a.put o.dst (.slice A' (n + 1) c')) w') :
    wpList Tryz.prog ops Q (o :: rest) a (w.alloc (.cells #[.int .i64 v] 3)) := by
  subst hl
  obtain ⟨i0, hi, hz0, hz1, hz2⟩ := int_row
  have hA : w.grownBy (w.alloc (.cells #[.int .i64 v] 3)) (row A) := World.grownBy_alloc w _ _
  have hown' : Own (w.alloc (.cells #[.int .i64 v] 3)) B A c xs := World.ownsRow.alloc hown _
  refine wpList_append_own_at _ hgd s x 25 ho B 3 i0 (.int .i64 0) 1 8 Tryz.underlying25 hi hz0 hz1 hz2 rfl (by decide) _ xs.length (ints xs) hs hown' ⟨w.heap.size, 0, none⟩ 1 1 [.int .i64 v] hx rfl (cell_one_new _ _ _) (by simp [Value.oneCell']) (by simp only [maxLen]; omega) (by omega) (by simp; omega) ?_
  intro v' w' h1 h2 _ h3
  obtain ⟨A', c', rfl, h4⟩ := own_of_row (xs := xs ++ [v]) h1 (by simp [ints]) (by simp)
  have e : (Value.slice A xs.length c).ownBlock = row A := by cases A <;> rfl
  rw [e] at h2 h3
  refine h A' c' w' h4 (hA.trans h2) ?_
  have e' : (Value.slice A' (xs.length + 1) c').ownBlock = row A' := by cases A' <;> rfl
  rw [e'] at h3
  rcases h3 with h3 | h3
  · exact .inl h3
  · refine .inr fun a ha => ?_
    subst ha
    simp [row] at h3
    omega
/-- The same where what is gathered is the head of a known list. -/
theorem app_take {w : World} {ops : Array Oper} {rest : List Oper} {o : Oper} {a : Act} {Q : Exit → Act → World → Prop} (hgd : o.guard = none) (s x : Operand)
    (ho : o.op = .call { callee := .builtin .append, args := #[s, x], argTypes := #[25, 25] })
    (B : Nat) (A : Option Addr) (c k : Nat) (R : List Int) (v : Int) (hk : k < R.length) (hv : R[k] = v) (hs : a.eval s = .slice A k c) (hown : Own w B A c (R.take k)) (hx : a.eval x = .slice (some ⟨w.heap.size, 0, none⟩) 1 1)
    (hn : k ≤ 1099511627776) (hB : B ≤ w.heap.size)
    (h : ∀ A' c' w', Own w' B A' c' (R.take (k + 1)) → Wrote w w' A → Moved A A' w.heap.size → wpList Tryz.prog ops Q rest (a.put o.dst (.slice A' (k + 1) c')) w') :
    wpList Tryz.prog ops Q (o :: rest) a (w.alloc (.cells #[.int .i64 v] 3)) :=
  app_new hgd s x ho B A c k (R.take k) v (by rw [List.length_take]; omega) hs hown hx hn hB fun A' c' w' h1 h2 h3 => h A' c' w' (by rw [List.take_succ_eq_append_getElem hk, hv]; exact h1) h2 h3
def RetLB (w : World) (x : List Int × Bool) (e : Ending) (w' : World) : Prop := ∃ A c, e = .returned (.tuple #[.slice A x.1.length c, .bool x.2]) ∧ Own w' w.heap.size A c x.1 ∧ Below w.heap.size w w'
theorem blk_wrote_hi {w w' : World} {g n : Nat} {t : TypeId} {cs : Array Value} {A : Option Addr} (h : Blk w g t cs) (hw : Wrote w w' A) (hl : Hi A n) (hg : n ≤ g) : Blk w' g t cs :=
  h.grown hw fun e => by
    cases A with
    | none => simp [row] at e
    | some a => simp [row] at e; have := hl a rfl; omega
/-- 'out := []int{}': an empty row. -/
theorem own_empty (w : World) (B : Nat) (hB : B ≤ w.heap.size) : Own (w.alloc (.cells #[] 3)) B (some ⟨w.heap.size, 0, none⟩) 0 [] :=
  World.ownsRow_made w #[] 0 hB (by simp [maxLen]) rfl
theorem below_app {w0 w w' : World} {A : Option Addr} {B c : Nat} {xs : List Int} (hb : Below B w0 w) (hw : Wrote w w' A) (hown : Own w B A c xs) (hB : B ≤ w.heap.size) : Below B w0 w' :=
  hb.trans (below_wrote hw hB (own_lo hown))
end Go.Proofs.YtgkijkenbjjnmaaGreatDoor
