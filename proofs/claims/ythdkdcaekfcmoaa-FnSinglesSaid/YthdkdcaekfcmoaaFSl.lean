/- Slices of singles: words, storage laws. (Printed by mkfsl.py.) -/
import Derived.Test.YthdkdcaekfcmoaaBase
import Derived.Test.YthdkdcaekfcmoaaPFl4
import Derived.Laws.Cover2
import Derived.Laws.FloatArith
namespace Go.Proofs.Ythdkdcaekfcmoaa
open Go.RowKit
set_option linter.unusedVariables false
set_option linter.unusedSimpArgs false
def flts (xs : List Nat) : List Value := xs.map (Value.float .f32)
theorem flts_length (xs : List Nat) : (flts xs).length = xs.length := by simp [flts]
theorem flts_append (xs ys : List Nat) : flts (xs ++ ys) = flts xs ++ flts ys := by simp [flts]
theorem flts_get {xs : List Nat} {j : Nat} (h : j < xs.length) : (flts xs)[j]? = some (.float .f32 (xs.getD j 0)) := by
  simp [flts, h]
theorem flts_set (xs : List Nat) (j : Nat) (v : Nat) : (flts xs).set j (.float .f32 v) = flts (xs.set j v) := by simp [flts, List.map_set]
theorem flts_replicate (n : Nat) : List.replicate n (Value.float .f32 0) = flts (List.replicate n 0) := by simp [flts]
theorem getD_atF {xs : List Nat} {k : Nat} (h : k < xs.length) : xs.getD k 0 = xs[k] := by simp [h]
def OwnF (w : World) (B : Nat) (A : Option Addr) (c : Nat) (xs : List Nat) : Prop := w.ownsRow B 31 1 (.slice A xs.length c) xs.length (flts xs)
def RdF (w : World) (B : Nat) (A : Option Addr) (xs : List Nat) : Prop :=
  0 < xs.length → ∃ ad, A = some ad ∧ ad.block < B ∧ ∀ j, j < xs.length → w.cell? (ad.add j) = some (.float .f32 (xs.getD j 0))
theorem fltInfo : (Try.prog.info? 31).map (fun i => (i.zero, i.size, i.bytes)) = some (some (.float .f32 0), 1, 4) := by kernel_rfl

section
variable {w w' : World} {B B' : Nat} {A : Option Addr} {c : Nat} {xs ys : List Nat}

theorem RdF.keep (h : RdF w B A xs) (hk : ∀ p : Addr, p.block < B → w'.cell? p = w.cell? p) : RdF w' B A xs := fun h0 => by
  obtain ⟨ad, e, hb, hc⟩ := h h0
  exact ⟨ad, e, hb, fun j hj => (hk _ (by rw [block_add]; exact hb)).trans (hc j hj)⟩
theorem RdF.more (h : RdF w B A xs) (hB : B ≤ B') : RdF w B' A xs := fun h0 => by
  obtain ⟨ad, e, hb, hc⟩ := h h0
  exact ⟨ad, e, by omega, hc⟩
theorem RdF.below (h : RdF w B A xs) (hb : Below B w w') : RdF w' B A xs := h.keep fun _ hp => hb.cell hp
/-- Behind a call that keeps all that there was. -/
theorem RdF.past (h : RdF w w.heap.size A xs) (hb : Below w.heap.size w w') : RdF w' w'.heap.size A xs := (h.below hb).more hb.size
theorem RdF.nil : RdF w B A [] := fun h => absurd h (by simp)
theorem RdF.at_ {k : Nat} (h : RdF w B A xs) (hk : k < xs.length) : ∃ ad, A = some ad ∧ ad.block < B ∧ ∀ j, j < xs.length → w.cell? (ad.add j) = some (.float .f32 (xs.getD j 0)) := h (by omega)
theorem RdF.grown (h : RdF w B A xs) {row : Option Nat} (hg : w.grownBy w' row) (hB : B ≤ w.heap.size) (hr : ∀ a, A = some a → some a.block ≠ row) : RdF w' B A xs := fun h0 => by
  obtain ⟨ad, e, hb, hc⟩ := h h0
  refine ⟨ad, e, hb, fun j hj => ?_⟩
  rw [← hc j hj]
  exact World.cell?_of_block (hg.block _ (by rw [block_add]; omega) (by rw [block_add]; exact hr ad e))

theorem ownF_rd (h : OwnF w B A c xs) : RdF w w.heap.size A xs := fun h0 => by
  rcases h.2 with ⟨hv, hn⟩ | ⟨g, cap, cur, hv, hb, hh, _⟩
  · omega
  · injection hv with h1 h2 h3
    subst h1
    refine ⟨_, rfl, (Array.getElem?_eq_some_iff.1 hh).1, fun j hj => ?_⟩
    exact World.ownsRow.cells h rfl j _ (flts_get hj)
theorem ownF_nil (w : World) (B : Nat) : OwnF w B none 0 [] := World.ownsRow_nil w B _ _
theorem ownF_below (h : OwnF w B A c xs) {B' : Nat} (hb : Below B' w w') (hlt : ∀ a, A = some a → a.block < B') : OwnF w' B A c xs := by
  obtain ⟨h1, h2⟩ := h
  refine ⟨h1, ?_⟩
  rcases h2 with h2 | ⟨g, cap, cur, hv, hg, hh, r⟩
  · exact Or.inl h2
  · injection hv with e1 e2 e3
    exact Or.inr ⟨g, cap, cur, by rw [e1, e2, e3], hg, (hb.block g (hlt _ e1)).trans hh, r⟩
theorem ownF_lt (h : OwnF w B A c xs) : ∀ a, A = some a → B ≤ a.block ∧ a.block < w.heap.size := fun a e => by
  subst e
  exact World.ownsRow.lt h _ rfl
theorem ownF_past (h : OwnF w B A c xs) (hb : Below w.heap.size w w') : OwnF w' B A c xs := ownF_below h hb fun a e => (ownF_lt h a e).2
theorem ownF_mono (h : OwnF w B A c xs) (hB : B' ≤ B) : OwnF w B' A c xs := by
  obtain ⟨h1, h2⟩ := h
  refine ⟨h1, ?_⟩
  rcases h2 with h2 | ⟨g, cap, cur, hv, hg, r⟩
  · exact Or.inl h2
  · exact Or.inr ⟨g, cap, cur, hv, by omega, r⟩
theorem ownF_cap (h : OwnF w B A c xs) : xs.length ≤ c ∧ c ≤ maxLen := by
  rcases h.2 with ⟨hv, hn⟩ | ⟨g, cap, cur, hv, _, _, h1, h2, _⟩
  · injection hv with _ h2 h3
    subst h3
    exact ⟨by omega, by simp [maxLen]⟩
  · injection hv with _ _ h3
    omega
theorem ownF_grown (h : OwnF w B A c xs) {row : Option Nat} (hg : w.grownBy w' row) (hr : ∀ a, A = some a → some a.block ≠ row) : OwnF w' B A c xs := by
  obtain ⟨h1, h2⟩ := h
  refine ⟨h1, ?_⟩
  rcases h2 with h2 | ⟨g, cap, cur, hv, hgg, hh, r⟩
  · exact Or.inl h2
  · have hlt := (Array.getElem?_eq_some_iff.1 hh).1
    injection hv with e1 e2 e3
    exact Or.inr ⟨g, cap, cur, by rw [e1, e2, e3], hgg, (hg.block g hlt (hr _ e1)).trans hh, r⟩
/-- What the laws on append and make leave, in my words. -/
theorem ownF_of_row {v : Value} {n : Nat} {es : List Value} (h : w.ownsRow B 31 1 v n es) (he : es = flts xs) (hn : n = xs.length) : ∃ A c, v = .slice A n c ∧ OwnF w B A c xs := by
  subst he; subst hn
  rcases h.2 with ⟨rfl, h0⟩ | ⟨g, cap, cur, rfl, _⟩
  · refine ⟨none, 0, by rw [h0], ?_⟩
    have : xs = [] := List.eq_nil_of_length_eq_zero h0
    subst this
    exact ownF_nil w B
  · exact ⟨_, _, rfl, h⟩
theorem ownF_head {k : Nat} (h : OwnF w B A c xs) (hk : k < xs.length) : ∃ g, A = some ⟨g, 0, none⟩ ∧ B ≤ g ∧ g < w.heap.size := by
  rcases h.2 with ⟨hv, hn⟩ | ⟨g, cap, cur, hv, hb, hh, _⟩
  · omega
  · injection hv with h1
    exact ⟨g, h1, hb, (Array.getElem?_eq_some_iff.1 hh).1⟩
theorem ownF_cell {g j : Nat} (h : OwnF w B (some ⟨g, 0, none⟩) c xs) (hj : j < xs.length) : w.cell? ⟨g, j, none⟩ = some (.float .f32 (xs.getD j 0)) :=
  (World.ownsRow.cellAt h j (by omega)).trans (flts_get hj)
theorem ownF_frozen {g : Nat} (h : OwnF w B (some ⟨g, 0, none⟩) c xs) (j : Nat) : w.frozen? ⟨g, j, none⟩ = false := World.ownsRow.frozenAt h j
theorem ownF_set {g : Nat} (h : OwnF w B (some ⟨g, 0, none⟩) c xs) (j : Nat) (v : Nat) : OwnF (w.setCell ⟨g, j, none⟩ (.float .f32 v)) B (some ⟨g, 0, none⟩) c (xs.set j v) := by
  have := (World.ownsRow.stored h j (.float .f32 v)).1
  rw [flts_set] at this
  unfold OwnF
  rw [List.length_set]
  exact this
/-- A new row that make lays. -/
theorem ownF_made (w : World) (n : Nat) (hB : B ≤ w.heap.size) (hn : n ≤ maxLen) : OwnF (w.alloc (.cells (madeCells #[.float .f32 0] n) 31)) B (some ⟨w.heap.size, 0, none⟩) n (List.replicate n 0) := by
  have e := flts_replicate n
  have := World.ownsRow_lit (base := B) (e := 31) (size := 1) w (madeCells #[.float .f32 0] n) n hB hn (by simp [size_madeCells])
  unfold OwnF
  rw [List.length_replicate, ← e, ← toList_madeCells_one]
  exact this
/-- A new row that is written out. -/
theorem ownF_cells (w : World) (cs : Array Value) (hB : B ≤ w.heap.size) (h : cs.toList = flts xs) (hn : xs.length ≤ maxLen) : OwnF (w.alloc (.cells cs 31)) B (some ⟨w.heap.size, 0, none⟩) xs.length xs := by
  have hs : cs.size = xs.length * 1 := by rw [← Array.length_toList, h, flts_length]; omega
  have := World.ownsRow_lit (base := B) (e := 31) (size := 1) w cs xs.length hB hn hs
  unfold OwnF
  rw [← h]
  exact this
end
theorem ownF_wrote {w w' : World} {B c : Nat} {A A' : Option Addr} {xs : List Nat} (h : OwnF w B A c xs) (hw : Wrote w w' A') (ha : Apart A A') : OwnF w' B A c xs :=
  ownF_grown h hw fun a e => by
    cases A' with
    | none => simp [row]
    | some a' => exact apart_row ha a e (by simp)
theorem rdF_wrote {w w' : World} {A A' : Option Addr} {xs : List Nat} (h : RdF w w.heap.size A xs) (hw : Wrote w w' A') (ha : Apart A A') : RdF w' w'.heap.size A xs :=
  (h.grown hw (Nat.le_refl _) fun a e => by
    cases A' with
    | none => simp [row]
    | some a' => exact apart_row ha a e (by simp)).more hw.size
theorem ownF_lo {w : World} {B c : Nat} {A : Option Addr} {xs : List Nat} (h : OwnF w B A c xs) : Lo A B := fun a e => (ownF_lt h a e).1
theorem ownF_hi {w : World} {B c : Nat} {A : Option Addr} {xs : List Nat} (h : OwnF w B A c xs) : Hi A w.heap.size := fun a e => (ownF_lt h a e).2

theorem appF_new {w : World} {ops : Array Oper} {rest : List Oper} {o : Oper} {a : Act} {Q : Exit → Act → World → Prop} (hgd : o.guard = none) (s x : Operand)
    (ho : o.op = .call { callee := .builtin .append, args := #[s, x], argTypes := #[26, 26] })
    (B : Nat) (A : Option Addr) (c n : Nat) (xs : List Nat) (v : Nat) (hl : xs.length = n) (hs : a.eval s = .slice A n c) (hown : OwnF w B A c xs) (hx : a.eval x = .slice (some ⟨w.heap.size, 0, none⟩) 1 1)
    (hn : n ≤ 1099511627776) (hB : B ≤ w.heap.size)
    (h : ∀ A' c' w', OwnF w' B A' c' (xs ++ [v]) → Wrote w w' A → Moved A A' w.heap.size → wpList Try.prog ops Q rest (a.put o.dst (.slice A' (n + 1) c')) w') :
    wpList Try.prog ops Q (o :: rest) a (w.alloc (.cells #[.float .f32 v] 31)) := by
  subst hl
  obtain ⟨i0, hi, hz0, hz1, hz2⟩ := info_parts fltInfo
  have hA : w.grownBy (w.alloc (.cells #[.float .f32 v] 31)) (row A) := World.grownBy_alloc w _ _
  have hown' : OwnF (w.alloc (.cells #[.float .f32 v] 31)) B A c xs := World.ownsRow.alloc hown _
  refine wpList_append_own_at _ hgd s x 26 ho B 31 i0 (.float .f32 0) 1 4 Try.underlying26 hi hz0 hz1 hz2 rfl (by decide) _ xs.length (flts xs) hs hown' ⟨w.heap.size, 0, none⟩ 1 1 [.float .f32 v] hx rfl (cell_one_new _ _ _) (by simp [Value.oneCell']) (by simp only [maxLen]; omega) (by omega) (by simp; omega) ?_
  intro v' w' h1 h2 _ h3
  obtain ⟨A', c', rfl, h4⟩ := ownF_of_row (xs := xs ++ [v]) h1 (by simp [flts]) (by simp)
  have e : (Value.slice A xs.length c).ownBlock = row A := by cases A <;> rfl
  rw [e] at h2 h3
  refine h A' c' w' h4 (hA.trans h2) ?_
  have e' : (Value.slice A' (xs.length + 1) c').ownBlock = row A' := by cases A' <;> rfl
  rw [e'] at h3
  rcases h3 with h3 | h3
  · exact .inl h3
  · refine .inr fun a ha => ?_
    subst ha
    simp [row] at h3
    omega
/-- The same where what is gathered is the head of a known list. -/
theorem appF_take {w : World} {ops : Array Oper} {rest : List Oper} {o : Oper} {a : Act} {Q : Exit → Act → World → Prop} (hgd : o.guard = none) (s x : Operand)
    (ho : o.op = .call { callee := .builtin .append, args := #[s, x], argTypes := #[26, 26] })
    (B : Nat) (A : Option Addr) (c k : Nat) (R : List Nat) (v : Nat) (hk : k < R.length) (hv : R[k] = v) (hs : a.eval s = .slice A k c) (hown : OwnF w B A c (R.take k)) (hx : a.eval x = .slice (some ⟨w.heap.size, 0, none⟩) 1 1)
    (hn : k ≤ 1099511627776) (hB : B ≤ w.heap.size)
    (h : ∀ A' c' w', OwnF w' B A' c' (R.take (k + 1)) → Wrote w w' A → Moved A A' w.heap.size → wpList Try.prog ops Q rest (a.put o.dst (.slice A' (k + 1) c')) w') :
    wpList Try.prog ops Q (o :: rest) a (w.alloc (.cells #[.float .f32 v] 31)) :=
  appF_new hgd s x ho B A c k (R.take k) v (by rw [List.length_take]; omega) hs hown hx hn hB fun A' c' w' h1 h2 h3 => h A' c' w' (by rw [List.take_succ_eq_append_getElem hk, hv]; exact h1) h2 h3

/-- 'out := []int{}': an empty row. -/
theorem ownF_empty (w : World) (B : Nat) (hB : B ≤ w.heap.size) : OwnF (w.alloc (.cells #[] 31)) B (some ⟨w.heap.size, 0, none⟩) 0 [] :=
  World.ownsRow_made w #[] 0 hB (by simp [maxLen]) rfl

theorem run_store_flt (a : Addr) (m : Mode) (k : FloatKind) (b : Nat) (W : World) : (store a (.float k b) m).run Try.prog W = stored Try.prog W a (.float k b) m := run_store Try.prog W a _ m rfl
theorem make_flts (n : Nat) (hn : n ≤ 1099511627776) : ∀ W : World, (Instr.makeSlice 26 (.int .i64 (n : Int)) (.int .i64 (n : Int))).run Try.prog W = .ok (.slice (some ⟨W.heap.size, 0, none⟩) n n) (W.alloc (.cells (madeCells #[.float .f32 0] n) 31)) :=
  fun W => run_make_row' 26 31 (.float .f32 0) 4 Try.underlying26 fltInfo rfl _ _ n (by omega) (by omega) W
theorem take_setN (xs ys : List Nat) (k : Nat) (hk : k < ys.length) (h : ys.take k = xs.take k) (hx : k < xs.length) : (ys.set k xs[k]).take (k + 1) = xs.take (k + 1) := by
  apply List.ext_getElem?
  intro j
  have h0 : ∀ i, i < k → ys[i]? = xs[i]? := fun i hi => by
    have := congrArg (·[i]?) h
    simpa [List.getElem?_take, hi] using this
  rw [List.getElem?_take, List.getElem?_take]
  split
  · rw [List.getElem?_set]
    split
    · rename_i e
      subst e
      simp [hk, hx]
    · exact h0 j (by omega)
  · rfl
def RetF (w : World) (xs : List Nat) (e : Ending) (w' : World) : Prop := ∃ A c, e = .returned (.slice A xs.length c) ∧ OwnF w' w.heap.size A c xs ∧ Below w.heap.size w w'
section
open Go.ChangeShapes Go.WideShapes Go.Joins Go.Deep
variable {H : Type} {enc : TypeId × Value → H} {P : Program} {w : World} {base : Nat} {spare : Nat → Bool} {held : Bool}
theorem trod_flt {fuel : Nat} {t : TypeId} {k : FloatKind} {cs : List Value} {x : DataW H × List MemPlace} (ht : P.underlying t = some (.float k)) (h : DataW.trod enc P w base spare held fuel t cs = some x) : ∃ b, cs = [.float k b] ∧ x = (.lit (.float k b), []) := by
  cases fuel with
  | zero => simp [DataW.trod] at h
  | succ n =>
    unfold DataW.trod at h
    rw [ht] at h
    split at h <;> simp_all
theorem arg_flts {r : Reach} {b0 : Nat} {t e : TypeId} {v : Value} {d : DataW H} {ps : List MemPlace} (ht : P.underlying t = some (.slice e)) (he : P.underlying e = some (.float .f32)) (hc : P.cellsOf e = 1)
    (hval : Value.okWide P w r b0 t v) (hd : DataW.Trod enc P w base spare held t v d ps) :
    ∃ A xs c, v = .slice A xs.length c ∧ xs.length ≤ c ∧ c ≤ maxLen ∧ RdF w w.heap.size A xs := by
  obtain ⟨a, l, c, rfl⟩ := okWide_slice ht hval
  obtain ⟨n, hn⟩ := trod_of_Trod hd rfl
  rcases DataW.trod_slice ht hn with ⟨hcs, _⟩ | ⟨x, l, c, elems, rest, n, _, hcs, _, hb, hl, hm, hlen, hel, _⟩
  · simp at hcs
    obtain ⟨rfl, rfl, rfl⟩ := hcs
    exact ⟨none, [], 0, rfl, by simp, by simp [maxLen], fun h => absurd h (by simp)⟩
  · simp at hcs
    obtain ⟨rfl, rfl, rfl⟩ := hcs
    have each : ∀ i, i < l → ∃ b, w.cell? (x.add i) = some (.float .f32 b) := by
      intro i hi
      have h1 := hel i hi
      rw [List.getElem?_eq_getElem (by omega), hc, Nat.mul_one, Option.bind_eq_some_iff] at h1
      obtain ⟨cs', hcs, hy⟩ := h1
      obtain ⟨b, hb', _⟩ := trod_flt he hy
      subst hb'
      exact ⟨b, cell_of_cells?_one hcs⟩
    let f : Nat → Nat := fun i => match w.cell? (x.add i) with
      | some (.float .f32 b) => b
      | _ => 0
    have hL : ((List.range l).map f).length = l := by simp
    refine ⟨some x, (List.range l).map f, c, by rw [hL], by rw [hL]; exact hl, hm, fun h0 => ?_⟩
    have hb : ∀ j, j < ((List.range l).map f).length → w.cell? (x.add j) = some (.float .f32 (((List.range l).map f).getD j 0)) := fun j hj => by
      have hj' : j < l := by rw [hL] at hj; exact hj
      obtain ⟨b, hb⟩ := each j hj'
      have e : ((List.range l).map f).getD j 0 = b := by
        simp only [List.getD_eq_getElem?_getD, List.getElem?_map, List.getElem?_range hj', Option.map_some, Option.getD_some]
        show f j = b
        simp only [f, hb]
      rw [e, hb]
    refine ⟨x, rfl, ?_, hb⟩
    have := World.block_lt_of_cell? w _ (hb 0 h0)
    rwa [block_add] at this
end

set_option maxHeartbeats 400000 in
theorem toFloat32S_any (A : Option Addr) (c : Nat) (xs : List Nat) (w : World) (hr : RdF w w.heap.size A xs) (hn : xs.length ≤ 1048576) :
    Calls Try.prog 19 #[.slice A xs.length c] w (RetF w xs) := by
  have hmk := make_flts xs.length (by omega)
  have hst := run_store_flt
  go_enter Try.func19, Try.ntmps19
  go_wp2
  go_loopw [4] (fun i wr => ∃ (k : Nat) (ys : List Nat), k ≤ xs.length ∧ i = .int .i64 k ∧ ys.length = xs.length ∧ Hid (ys.take k = xs.take k) ∧ OwnF wr w.heap.size (some ⟨w.heap.size, 0, none⟩) xs.length ys ∧ Below w.heap.size w wr) (fun i _ => xs.length - (intOf i).toNat)
  case atStart => exact ⟨0, List.replicate xs.length 0, by omega, rfl, by simp, Lib.hid (by simp), ownF_made w _ (Nat.le_refl _) (by simp only [maxLen]; omega), (Below.refl _ _).alloc (Nat.le_refl _) _⟩
  case round =>
    obtain ⟨k, ys, hk, rfl, hl, hy, hown, hb⟩ := hrel
    by_cases hlt : k < xs.length
    · obtain ⟨ad, rfl, hbl, hcell⟩ := hr.at_ hlt
      have hc1 : wr.cell? (ad.add k) = some (.float .f32 (xs.getD k 0)) := (hb.cell (by rw [block_add]; exact hbl)).trans (hcell k hlt)
      have hc2 := ownF_cell hown (j := k) (by omega)
      have hf2 := ownF_frozen hown k
      have hl1 : ys.length ≤ xs.length := by omega
      have hl2 : xs.length ≤ ys.length := by omega
      clear hl hr hcell
      go_wp2
      go_roundw
      case rel => exact ⟨k + 1, ys.set k xs[k], by omega, by go_num, by simp; omega, Lib.hid (take_setN xs ys k (by omega) hy.out hlt), (by have h := ownF_set hown k xs[k]; exact h), hb.setCell (by simp) _⟩
      case measure => simp [intOf]; omega
    · go_wp2
      go_ret
      have e : ys = xs := by have := hy.out; rwa [List.take_of_length_le (by omega), List.take_of_length_le (by omega)] at this
      subst e
      exact ⟨_, _, rfl, hown, hb⟩
def marksF (k : Int) (n : Nat) : List Nat := (List.range n).map fun (j : Nat) => floatOfInt .f32 (k + j)
theorem marksF_length (k : Int) (n : Nat) : (marksF k n).length = n := by simp [marksF]
theorem marksF_get {k : Int} {n j : Nat} (h : j < n) : (marksF k n)[j]? = some (floatOfInt .f32 (k + j)) := by
  simp [marksF, h]
def RetMarkF (w : World) (A : Option Addr) (c n : Nat) (k : Int) (e : Ending) (w' : World) : Prop :=
  e = .returned (.int .i64 (k + n)) ∧ OwnF w' 0 A c (marksF k n) ∧ Wrote w w' A
theorem set_marksF {ys : List Nat} {n j : Nat} {k : Int} (hl : ys.length = n) (hj : j < n) (h : ys.take j = (marksF k n).take j) : (ys.set j (floatOfInt .f32 (k + j))).take (j + 1) = (marksF k n).take (j + 1) := by
  have hm := marksF_length k n
  have e := marksF_get (k := k) hj
  have e' : (marksF k n)[j]'(by omega) = floatOfInt .f32 (k + j) := by
    rw [List.getElem?_eq_getElem (by omega)] at e
    exact Option.some.inj e
  rw [← e']
  exact take_setN _ _ _ (by omega) h (by omega)
set_option maxHeartbeats 400000 in
theorem markFloat32S_any (A : Option Addr) (B c : Nat) (xs : List Nat) (k : Int) (w : World) (hx : OwnF w B A c xs) (hn : xs.length ≤ 1099511627776) (k1 : 0 ≤ k) (k2 : k ≤ 4398046511104) :
    Calls Try.prog 16 #[.slice A xs.length c, .int .i64 k] w (RetMarkF w A c xs.length k) := by
  have hcv := fun (n : Int) (W : World) => run_convert_int_float (P := Try.prog) (w := W) 3 31 .i64 .f32 n (by rw [Try.underlying3]; rfl) Try.underlying31
  go_enter Try.func16, Try.ntmps16
  go_wp2
  go_loopw [1, 5] (fun q i wr => ∃ (j : Nat) (ys : List Nat), j ≤ xs.length ∧ i = .int .i64 j ∧ q = .int .i64 (k + j) ∧ Hid (ys.length = xs.length) ∧ Hid (ys.take j = (marksF k xs.length).take j) ∧ Hid (OwnF wr 0 A c ys) ∧ Wrote w wr A) (fun _ i _ => xs.length - (intOf i).toNat)
  case atStart => exact ⟨0, xs, by omega, rfl, by simp, rfl, Lib.hid (by simp), ownF_mono hx (by omega), World.grownBy.refl _ _⟩
  case round =>
    obtain ⟨j, ys, hj, rfl, rfl, hl, hy, hown, hw⟩ := hrel
    by_cases hlt : j < xs.length
    · obtain ⟨g, rfl, _, _⟩ := ownF_head hx hlt
      have hlt' : j < ys.length := by have := hl.out; omega
      have hc2 := ownF_cell hown.out hlt'
      have hf2 := ownF_frozen hown.out j
      have hcv1 := hcv (k + j) wr
      have hst := run_store_flt
      clear hx hcv
      go_wp2
      go_roundw
      case rel => exact ⟨j + 1, ys.set j (floatOfInt .f32 (k + j)), by omega, by go_num, by go_num, by have := hl.out; simp [Hid, this], set_marksF hl.out hlt hy.out, ownF_set hown.out j _, wrote_set hw rfl _⟩
      case measure => simp [intOf]; omega
    · obtain rfl : j = xs.length := by omega
      clear hcv
      go_wp2
      go_ret
      have e : ys = marksF k xs.length := by
        have := hy.out
        rwa [List.take_of_length_le (by have := hl.out; omega), List.take_of_length_le (by rw [marksF_length]; omega)] at this
      refine ⟨rfl, ?_, hw⟩
      rw [← e]
      exact hown.out
theorem eq32 {n : Int} (h : n.natAbs ≤ 4503599627370496) : (FloatKind.f32.format.order (floatOfInt .f32 n) (floatOfInt .f32 n) != some .eq) = false := by
  obtain ⟨y, hy⟩ := Flo.fin_int32 n h
  obtain ⟨o, h1, h2, h3, h4⟩ := Flo.fin_order hy hy
  have h1' : FloatKind.f32.format.order (floatOfInt .f32 n) (floatOfInt .f32 n) = some o := h1
  rw [h1', h3.2 rfl]; rfl
set_option maxHeartbeats 400000 in
theorem heldFloat32S_any (A : Option Addr) (c : Nat) (n : Nat) (k : Int) (w : World) (hx : RdF w w.heap.size A (marksF k n)) (hn : n ≤ 1099511627776) (k1 : 0 ≤ k) (k2 : k ≤ 4398046511104) :
    Calls Try.prog 17 #[.slice A n c, .int .i64 k] w fun e w' => e = .returned (.int .i64 (k + n)) ∧ Below w.heap.size w w' := by
  have hcv := fun (n : Int) (W : World) => run_convert_int_float (P := Try.prog) (w := W) 3 31 .i64 .f32 n (by rw [Try.underlying3]; rfl) Try.underlying31
  go_enter Try.func17, Try.ntmps17
  go_wp2
  go_loopw [1, 5] (fun q i wr => ∃ j : Nat, j ≤ n ∧ i = .int .i64 j ∧ q = .int .i64 (k + j) ∧ Hid (Below w.heap.size w wr)) (fun _ i _ => n - (intOf i).toNat)
  case atStart => exact ⟨0, by omega, rfl, by simp, Below.refl _ _⟩
  case round =>
    obtain ⟨j, hj, rfl, rfl, hb⟩ := hrel
    by_cases hlt : j < n
    · obtain ⟨ad, rfl, hbl, hcell⟩ := hx.at_ (k := j) (by rw [marksF_length]; exact hlt)
      have hc1 : wr.cell? (ad.add j) = some (.float .f32 (floatOfInt .f32 (k + j))) := by
        rw [hb.out.cell (by rw [block_add]; exact hbl), hcell j (by rw [marksF_length]; exact hlt), List.getD, marksF_get hlt]; rfl
      have hcv1 := hcv (k + j) wr
      have heq := eq32 (n := k + j) (by omega)
      clear hx hcell hcv
      go_wp2
      go_roundw
      case rel => exact ⟨j + 1, by omega, by go_num, by go_num, hb.out⟩
      case measure => simp [intOf]; omega
    · obtain rfl : j = n := by omega
      clear hcv
      go_wp2
      go_ret
      exact ⟨rfl, hb.out⟩

end Go.Proofs.Ythdkdcaekfcmoaa
