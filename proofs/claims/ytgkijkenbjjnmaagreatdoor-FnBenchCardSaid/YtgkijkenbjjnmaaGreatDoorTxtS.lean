/- Slices of bytes whose row may bear the mark of a conversion; contract of the reference's l7Text and of its FormatSequence. -/
import Derived.Test.YtgkijkenbjjnmaaGreatDoorFmtS
import Derived.Test.YtgkijkenbjjnmaaGreatDoorBytY
import Derived.Deep.AppendSrc
import Derived.Deep.Upon
namespace Go.Proofs.YtgkijkenbjjnmaaGreatDoor
open Go.RowKit
set_option linter.unusedVariables false
set_option linter.unusedSimpArgs false
/-- A slice of bytes at the head of a row in a block from B on; no cell of the row is frozen. -/
def OwnZ (w : World) (B : Nat) (A : Option Addr) (c : Nat) (xs : List UInt8) : Prop :=
  ∃ g cur lo hi, A = some ⟨g, 0, none⟩ ∧ B ≤ g ∧ w.heap[g]? = some (.cells cur 5 (lo, hi)) ∧ (∀ j, j < cur.size → (decide (lo ≤ j) && decide (j < hi)) = false) ∧ xs.length ≤ c ∧ c = cur.size ∧ ∀ j, j < xs.length → cur[j]? = (xs.map cellY)[j]?
theorem ownZ_lo {w : World} {B c : Nat} {A : Option Addr} {xs : List UInt8} (h : OwnZ w B A c xs) : Lo A B := by
  obtain ⟨g, cur, lo, hi, rfl, hb, _⟩ := h
  intro a e; cases e; exact hb
theorem ownZ_past {w w' : World} {B c : Nat} {A : Option Addr} {xs : List UInt8} (h : OwnZ w B A c xs) (hb : Below w.heap.size w w') : OwnZ w' B A c xs := by
  obtain ⟨g, cur, lo, hi, rfl, h1, h2, h3⟩ := h
  exact ⟨g, cur, lo, hi, rfl, h1, (hb.block g (Array.getElem?_eq_some_iff.1 h2).1).trans h2, h3⟩
theorem frozen_row {w : World} {g : Nat} {cur : Array Value} {t : TypeId} {lo hi : Nat} (h : w.heap[g]? = some (.cells cur t (lo, hi))) (j : Nat) : w.frozen? ⟨g, j, none⟩ = (decide (lo ≤ j) && decide (j < hi)) := by
  unfold World.frozen?; rw [h]
theorem ownZ_of (W : World) (B : Nat) (hB : B ≤ W.heap.size) (l : List UInt8) : OwnZ (W.drew.alloc (.cells (bytesRow (bs l) (grownCap W (bs l).size 0 5)) 5 ((bytesRow (bs l) (grownCap W (bs l).size 0 5)).size, (bytesRow (bs l) (grownCap W (bs l).size 0 5)).size + 1))) B (some ⟨W.heap.size, 0, none⟩) (grownCap W (bs l).size 0 5) l := by
  have hg := grownCap_ge W (bs l).size 0 5
  have hz := bs_size l
  refine ⟨W.heap.size, _, _, _, rfl, hB, heap_alloc_new W.drew _, fun j hj => ?_, by omega, ?_, fun j hj => ?_⟩
  · simp; omega
  · simp only [bytesRow, Array.size_append, Array.size_map, Array.size_replicate]
    have : (bs l).data.size = l.length := bs_size l
    omega
  · rw [bytesRow_at _ _ j (by have : (bs l).data.size = l.length := bs_size l; omega), List.getElem?_map, List.getElem?_eq_getElem hj]
    rfl
theorem setCells_row (g : Nat) (t : TypeId) (fr : Nat × Nat) : ∀ (vs : List Value) (o : Nat) (w : World) (cur : Array Value), w.heap[g]? = some (.cells cur t fr) →
    ∃ cur', (w.setCells g o vs).heap[g]? = some (.cells cur' t fr) ∧ cur'.size = cur.size ∧ (∀ j, j < o → cur'[j]? = cur[j]?) ∧ ∀ j, j < vs.length → o + j < cur.size → cur'[o + j]? = vs[j]?
  | [], o, w, cur, h => ⟨cur, h, rfl, fun _ _ => rfl, fun j hj => absurd hj (by simp)⟩
  | v :: r, o, w, cur, h => by
    have h1 : (w.setCell ⟨g, o, none⟩ v).heap[g]? = some (.cells (cur.setIfInBounds o v) t fr) := by simp [World.setCell, Array.getElem?_modify, h]
    obtain ⟨cur', k1, k2, k3, k4⟩ := setCells_row g t fr r (o + 1) _ _ h1
    refine ⟨cur', k1, by rw [k2]; simp, fun j hj => ?_, fun j hj hs => ?_⟩
    · rw [k3 j (by omega), Array.getElem?_setIfInBounds_ne (by omega)]
    · cases j with
      | zero => rw [Nat.add_zero, k3 o (by omega), Array.getElem?_setIfInBounds_self_of_lt (by omega)]; rfl
      | succ j =>
        have := k4 j (by simpa using hj) (by simp; omega)
        rw [show o + (j + 1) = o + 1 + j by omega, this]; rfl
theorem setCells_tape (g : Nat) : ∀ (vs : List Value) (o : Nat) (w : World), (w.setCells g o vs).tape = w.tape ∧ (w.setCells g o vs).heap.size = w.heap.size
  | [], _, _ => ⟨rfl, rfl⟩
  | v :: r, o, w => by
    have := setCells_tape g r (o + 1) (w.setCell ⟨g, o, none⟩ v)
    exact ⟨this.1, this.2.trans (by simp [World.setCell])⟩
theorem wrote_setCells (w : World) (g o : Nat) (vs : List Value) : Wrote w (w.setCells g o vs) (some ⟨g, 0, none⟩) :=
  ⟨World.os_setCells w g o vs, (setCells_tape g vs o w).1, World.output_setCells w g o vs, by rw [(setCells_tape g vs o w).2]; exact Nat.le_refl _, fun i hi hne => World.heap_setCells_other w g o vs hi fun e => hne (by rw [e]; rfl)⟩
theorem firstZ {w : World} {B c : Nat} {A : Option Addr} {xs : List UInt8} (h : OwnZ w B A c xs) : (Builtin.firstCells 1 xs.length (.slice A xs.length c)).run Tryz.prog w = .ok ((xs.map cellY).toArray) w := by
  obtain ⟨g, cur, lo, hi, rfl, _, h2, _, h4, h5, h6⟩ := h
  refine run_firstCells_some w 1 xs.length ⟨g, 0, none⟩ xs.length c (xs.map cellY) (by simp) fun j u hu => ?_
  have hj : j < xs.length := by have := (List.getElem?_eq_some_iff.1 hu).1; simpa using this
  rw [Addr.add_lit, Nat.zero_add, cell_of_row w g j cur _ _ h2, h6 j hj]
  exact hu
theorem run_appZ {w : World} {ty tx : TypeId} {B : Nat} {A : Option Addr} {c n : Nat} {xs : List UInt8} (hl : xs.length = n) (hown : OwnZ w B A c xs) (x : Value) (ys : List UInt8) (hs : Src Tryz.prog 1 tx x ys.length (ys.map cellY) w) (hn : n + ys.length ≤ 1099511627776) (hB : B ≤ w.heap.size) :
    ∃ A' c' w', (Builtin.append_ #[22, tx] ty #[.slice A n c, x]).run Tryz.prog w = .ok (.slice A' (n + ys.length) c') w' ∧ OwnZ w' B A' c' (xs ++ ys) ∧ Wrote w w' A := by
  subst hl
  obtain ⟨i0, hi, hz0, hz1, hz2⟩ := info_parts u8Info
  have hown0 := hown
  obtain ⟨g, cur, lo, hi', rfl, h1, h2, h3, h4, h5, h6⟩ := hown
  rw [← hz1] at hs
  have hD : OwnZ w.drew B (some ⟨g, 0, none⟩) c xs := ⟨g, cur, lo, hi', rfl, h1, h2, h3, h4, h5, h6⟩
  by_cases hroom : xs.length + ys.length ≤ c
  · have hr := run_append_room_src w 22 tx ty 5 i0 Tryz.underlying22 hi g 0 xs.length c x ys.length (ys.map cellY) hs hroom (fun j hj => by
        rw [hz1, cell_of_row w g _ cur _ _ h2, Array.getElem?_eq_getElem (by simp at hj; omega)]; rfl) (fun j hj => by
        rw [hz1, frozen_row h2]; exact h3 _ (by simp at hj; omega))
    rw [hz1, Nat.zero_add, Nat.mul_one] at hr
    refine ⟨_, c, _, hr, ?_, wrote_setCells w g _ _⟩
    obtain ⟨cur', k1, k2, k3, k4⟩ := setCells_row g 5 (lo, hi') (ys.map cellY) xs.length w cur h2
    refine ⟨g, cur', lo, hi', rfl, h1, k1, fun j hj => h3 j (by omega), by simp; omega, by omega, fun j hj => ?_⟩
    rw [List.map_append]
    by_cases hjx : j < xs.length
    · rw [k3 j hjx, h6 j hjx, List.getElem?_append_left (by simpa using hjx)]
    · rw [List.length_append] at hj
      have := k4 (j - xs.length) (by simp; omega) (by omega)
      rw [show xs.length + (j - xs.length) = j by omega] at this
      rw [this, List.getElem?_append_right (by simp; omega), List.length_map]
  · have hr := run_append_grow_src w 22 tx ty 5 i0 (.int .u8 0) Tryz.underlying22 hi hz0 (some ⟨g, 0, none⟩) xs.length c (xs.map cellY) (by rw [hz1]; exact firstZ hD) x ys.length (ys.map cellY) hs (by omega) (by omega) (by rw [hz2]; exact growslice_fits (by omega) (by omega))
    refine ⟨_, _, _, hr, ?_, ⟨rfl, rfl, rfl, by simp, fun k hk _ => heap_alloc_old w.drew _ hk⟩⟩
    have hge := grownCap_ge w (xs.length + ys.length) c 5
    refine ⟨w.heap.size, _, 0, 0, rfl, hB, heap_alloc_new w.drew _, fun j hj => by simp, by rw [List.length_append]; exact hge, ?_, fun j hj => ?_⟩
    · simp [size_zeroCells, Value.cells]; omega
    · rw [Array.getElem?_append_left (by simpa using hj)]
      simp
theorem ownZ_string {w : World} {B c : Nat} {A : Option Addr} {xs : List UInt8} (h : OwnZ w B A c xs) : (convert 22 9 (.slice A xs.length c)).run Tryz.prog w = .ok (.string (bs xs)) w := by
  obtain ⟨g, cur, lo, hi, rfl, _, h2, _, h4, h5, h6⟩ := h
  refine run_convert_bytes_back w 22 9 5 ⟨g, 0, none⟩ c xs Tryz.underlying22 Tryz.underlying5 Tryz.underlying9 fun j hj => ?_
  rw [Addr.add_lit, Nat.zero_add, cell_of_row w g j cur _ _ h2, h6 j hj, List.getElem?_map, List.getElem?_eq_getElem hj]; rfl
/-- 'append(out, v)' of one byte. -/
theorem appZ_one {w : World} {ops : Array Oper} {rest : List Oper} {o : Oper} {a : Act} {Q : Exit → Act → World → Prop} (hgd : o.guard = none) (s x : Operand)
    (ho : o.op = .call { callee := .builtin .append, args := #[s, x], argTypes := #[22, 22] })
    (B : Nat) (A : Option Addr) (c n : Nat) (xs : List UInt8) (v : UInt8) (hl : xs.length = n) (hs : a.eval s = .slice A n c) (hown : OwnZ w B A c xs) (hx : a.eval x = .slice (some ⟨w.heap.size, 0, none⟩) 1 1)
    (hn : n + 1 ≤ 1099511627776) (hB : B ≤ w.heap.size)
    (h : ∀ A' c' w', OwnZ w' B A' c' (xs ++ [v]) → Wrote w w' A → wpList Tryz.prog ops Q rest (a.put o.dst (.slice A' (n + 1) c')) w') :
    wpList Tryz.prog ops Q (o :: rest) a (w.alloc (.cells #[cellY v] 5)) := by
  refine wpList_plain hgd fun K hK => ?_
  have hb : Below w.heap.size w (w.alloc (.cells #[cellY v] 5)) := (Below.refl _ _).alloc (Nat.le_refl _) _
  have hs1 : Src Tryz.prog 1 22 (.slice (some ⟨w.heap.size, 0, none⟩) 1 1) [v].length ([v].map cellY) (w.alloc (.cells #[cellY v] 5)) :=
    Src.ofSlice _ Tryz.underlying22 ⟨w.heap.size, 0, none⟩ 1 1 [cellY v] rfl (cell_one_new _ _ _) (by simp [cellY, Value.oneCell'])
  obtain ⟨A', c', w', hr, h2, h3⟩ := run_appZ (ty := o.type) hl (ownZ_past hown hb) _ [v] hs1 (by simpa using hn) (by simp; omega)
  unfold Oper.wp execOp
  simp only [ho, resolve, invoke, builtin, Sem.run_bind, Sem.run_pure, Result.andThen_ok, List.map_toArray, List.map_cons, List.map_nil, hs, hx, hr]
  exact hK _ _ (h A' c' w' h2 ((World.grownBy_alloc w _ _).trans h3))
/-- 'append(out, s...)' of a string. -/
theorem appZ_str {w : World} {ops : Array Oper} {rest : List Oper} {o : Oper} {a : Act} {Q : Exit → Act → World → Prop} (hgd : o.guard = none) (s x : Operand)
    (ho : o.op = .call { callee := .builtin .append, args := #[s, x], argTypes := #[22, 9] })
    (B : Nat) (A : Option Addr) (c n : Nat) (xs ys : List UInt8) (hl : xs.length = n) (hs : a.eval s = .slice A n c) (hown : OwnZ w B A c xs) (hx : a.eval x = .string (bs ys))
    (hn : n + ys.length ≤ 1099511627776) (hB : B ≤ w.heap.size)
    (h : ∀ A' c' w', OwnZ w' B A' c' (xs ++ ys) → Wrote w w' A → wpList Tryz.prog ops Q rest (a.put o.dst (.slice A' (n + ys.length) c')) w') :
    wpList Tryz.prog ops Q (o :: rest) a w := by
  refine wpList_plain hgd fun K hK => ?_
  have e1 : (bs ys).size = ys.length := bs_size ys
  have e2 : byteCells (bs ys) = ys.map cellY := by simp [byteCells, bs, cellY]
  have hs1 := Src.ofString (P := Tryz.prog) w Tryz.underlying9 (bs ys)
  rw [e1, e2] at hs1
  obtain ⟨A', c', w', hr, h2, h3⟩ := run_appZ (ty := o.type) hl hown _ ys hs1 hn hB
  unfold Oper.wp execOp
  simp only [ho, resolve, invoke, builtin, Sem.run_bind, Sem.run_pure, Result.andThen_ok, List.map_toArray, List.map_cons, List.map_nil, hs, hx, hr]
  exact hK _ _ (h A' c' w' h2 h3)
/-- '[]byte(s)'. -/
theorem conv_str {w : World} {ops : Array Oper} {rest : List Oper} {o : Oper} {a : Act} {Q : Exit → Act → World → Prop} (hgd : o.guard = none) (x : Operand) (ho : o.op = .convert 9 22 x)
    (l : List UInt8) (hx : a.eval x = .string (bs l)) (B : Nat) (hB : B ≤ w.heap.size)
    (h : ∀ A c w', OwnZ w' B A c l → Below w.heap.size w w' → wpList Tryz.prog ops Q rest (a.put o.dst (.slice A l.length c)) w') :
    wpList Tryz.prog ops Q (o :: rest) a w := by
  refine wpList_plain hgd fun K hK => ?_
  have hr := run_bytes_of_string (P := Tryz.prog) w 9 22 5 (bs l) Tryz.underlying9 Tryz.underlying22 Tryz.underlying5
  have e1 : (bs l).size = l.length := bs_size l
  have hO := ownZ_of w B hB l
  have hw : Below w.heap.size w (w.drew.alloc (.cells (bytesRow (bs l) (grownCap w (bs l).size 0 5)) 5 ((bytesRow (bs l) (grownCap w (bs l).size 0 5)).size, (bytesRow (bs l) (grownCap w (bs l).size 0 5)).size + 1))) := ((Below.refl _ _).drew).alloc (Nat.le_refl _) _
  have hh := h _ _ _ hO hw
  rw [e1] at hr hh
  unfold Oper.wp execOp
  simp only [ho, hx, Sem.run_bind, Sem.run_pure, Result.andThen_ok, hr]
  exact hK _ _ hh
theorem rd_tail {w : World} {B : Nat} {ad : Addr} {x : Int} {r : List Int} (h : Rd w B (some ad) (x :: r)) : Rd w B (some (ad.add 1)) r := fun h0 => by
  obtain ⟨ad', e, hb, hc⟩ := h (by simp)
  obtain rfl := Option.some.inj e
  refine ⟨_, rfl, by rw [block_add]; exact hb, fun j hj => ?_⟩
  have := hc (1 + j) (by simp; omega)
  rw [Addr.add_add, this]
  simp [List.getD, Nat.add_comm 1 j]
def txtTo (x : Int) (r : List Int) (k : Nat) : List UInt8 := decI x ++ Lib.joinTail [44] ((r.map decI).take k)
theorem txtTo_zero (x : Int) (r : List Int) : txtTo x r 0 = decI x := by simp [txtTo, Lib.joinTail]
theorem txtTo_succ {x : Int} {r : List Int} {k : Nat} (h : k < r.length) : txtTo x r (k + 1) = txtTo x r k ++ [44] ++ decI r[k] := by
  unfold txtTo
  rw [Lib.joinTail_take_succ [44] (r.map decI) k (decI r[k]) (by rw [List.getElem?_map, List.getElem?_eq_getElem h]; rfl)]
  simp [List.append_assoc]
theorem txtTo_end (x : Int) (r : List Int) : txtTo x r r.length = fmtL (x :: r) := by
  unfold txtTo fmtL
  rw [if_neg (by simp), List.map_cons, Lib.join_cons, List.take_of_length_le (by simp)]
theorem txtTo_le {x : Int} {r : List Int} (h : seqOk (x :: r) = true) (k : Nat) : (txtTo x r k).length ≤ 30000 := by
  have h1 := join_le h
  rw [List.map_cons, Lib.join_cons, List.length_append] at h1
  have h2 := Lib.joinTail_take_le [44] (r.map decI) k
  unfold txtTo
  rw [List.length_append]; omega
set_option maxRecDepth 100000 in
set_option maxHeartbeats 1000000 in
theorem l7Text_any (A : Option Addr) (c : Nat) (xs : List Int) (w : World) (hr : Rd w w.heap.size A xs) (hc : xs.length ≤ c) (hm : c ≤ 9223372036854775807) (h : seqOk xs = true) :
    Calls Tryz.prog 56 #[.slice A xs.length c] w fun e w' => e = .returned (.string (bs (fmtL xs))) ∧ Below w.heap.size w w' := by
  cases xs with
  | nil =>
    go_enter Tryz.func56, Tryz.ntmps56
    go_wp2
    go_ret
    exact ⟨rfl, Below.refl _ _⟩
  | cons x r =>
    obtain ⟨ad, rfl, hbl, hcell⟩ := hr.at_ (k := 0) (by simp)
    have hc0 : w.cell? ad = some (.int .i64 x) := by have := hcell 0 (by simp); rw [Addr.add_zero'] at this; simpa using this
    have HT := Lib.hid (rd_tail hr)
    have hl := seqOk_len h
    have HS := Lib.hid h
    have bx := seqOk_at h (k := 0) (by simp)
    simp at bx
    have hlen : (x :: r).length = r.length + 1 := by simp
    obtain ⟨n, hn⟩ : ∃ n, n = r.length := ⟨_, rfl⟩
    have Hn := Lib.hid hn
    rw [hlen, ← hn] at hl hc ⊢
    have tz : (((n + 1 : Nat) : Int) == 0) = false := by rw [beq_eq_false_iff_ne]; omega
    clear hr hcell h hlen hn
    go_enter Tryz.func56, Tryz.ntmps56
    have LE := fun k => txtTo_le HS.out k
    by_cases c1 : c = 1
    all_goals
      go_wp2_with (first | (go_at_call 63; refine (l7Number_any x _ (by omega) (by omega)).mono ?_; rintro e w1 ⟨rfl, h1⟩) | (refine conv_str rfl (.tmp 12) rfl (decI x) rfl w.heap.size h1.size ?_))
      intro Aq cq w2 hO h2
      have Hb := Lib.hid (thenB h1 h2)
      have HO := Lib.hid hO
      clear hO h1 h2
      have m1 : (decI x).length ≤ 30000 := by have := LE 0; rwa [txtTo_zero] at this
      obtain ⟨m0, hm0⟩ : ∃ m0, m0 = (decI x).length := ⟨_, rfl⟩
      have Hm0 := Lib.hid hm0
      rw [← hm0] at m1 ⊢
      clear hm0
      go_wp2_with fail
      go_loopw [3, 17] (fun q i wr => ∃ (k m : Nat) (Aq : Option Addr) (cq : Nat), k ≤ n ∧ m ≤ 30000 ∧ i = .int .i64 k ∧ q = .slice Aq m cq ∧ Hid (m = (txtTo x r k).length) ∧ Hid (OwnZ wr w.heap.size Aq cq (txtTo x r k)) ∧ Hid (Below w.heap.size w wr)) (fun _ i _ => n - (intOf i).toNat)
      case atStart => exact ⟨0, m0, Aq, cq, by omega, m1, rfl, rfl, by show _ = _; rw [txtTo_zero]; exact Hm0.out, by show OwnZ _ _ _ _ _; rw [txtTo_zero]; exact HO.out, Hb.out⟩
      case round =>
        clear HO Hb Hm0 m1
        obtain ⟨k, m, Aq, cq, hk, hm2, rfl, rfl, Hm, HO, Hb⟩ := hrel
        by_cases hlt1 : k < n ∧ c ≠ 1
        · have hlt : k < n := hlt1.1
          first
            | exact absurd c1 hlt1.2
            | (
              have hkr : k < r.length := by rw [← Hn.out]; exact hlt
              obtain ⟨ad', ea, hbl', hcell⟩ := HT.out.at_ hkr
              obtain rfl := Option.some.inj ea
              have hc1 : wr.cell? ((ad.add 1).add k) = some (.int .i64 (r.getD k 0)) := (Hb.out.cell (by rw [block_add]; exact hbl')).trans (hcell k hkr)
              rw [getD_at hkr, show ad.add 1 = ⟨ad.block, ad.off + 1, none⟩ from rfl, Addr.add_lit] at hc1
              have b1 := seqOk_at HS.out (k := k + 1) (by simp; omega)
              rw [List.getElem_cons_succ] at b1
              have HP : Hid (txtTo x r (k + 1) = txtTo x r k ++ [44] ++ decI r[k]) := txtTo_succ hkr
              have hdl := decI_le (n := r[k]) (by omega) (by omega)
              have hml : (txtTo x r (k + 1)).length = m + 1 + (decI r[k]).length := by rw [HP.out, List.length_append, List.length_append, ← Hm.out]; rfl
              have hm3 : m + 1 + (decI r[k]).length ≤ 30000 := by have := LE (k + 1); omega
              have HM := Lib.hid hml
              obtain ⟨v, hv⟩ : ∃ v, v = r[k] := ⟨_, rfl⟩
              rw [← hv] at hc1 b1 HP hdl HM hm3
              obtain ⟨D, hD⟩ : ∃ D, D = decI v := ⟨_, rfl⟩
              have HD := Lib.hid hD
              rw [← hD] at HP hdl HM hm3
              clear hcell hv hml hD
              go_wp2_with (at_builtin; refine appZ_one rfl (.tmp 21) (.tmp 22) rfl w.heap.size Aq cq m (txtTo x r k) 44 Hm.out.symm rfl HO.out rfl (by omega) Hb.out.size ?_)
              intro A1 c1' w3 hO1 hw1
              have hb1 := Hb.out.trans (below_wrote hw1 Hb.out.size (ownZ_lo HO.out))
              have hz : (txtTo x r k ++ [44]).length = m + 1 := by rw [List.length_append, ← Hm.out]; rfl
              have Hz := Lib.hid hz
              have HO1 := Lib.hid hO1
              have Hb1 := Lib.hid hb1
              clear hw1 hO1 hb1 hz HO Hb Hm
              go_wp2_with (first | (go_at_call 63; refine (l7Number_any v _ (by omega) (by omega)).mono ?_; rintro e w4 ⟨rfl, h4⟩; rw [← HD.out]) | (at_builtin; refine appZ_str rfl (.tmp 23) (.tmp 25) rfl w.heap.size A1 c1' (m + 1) (txtTo x r k ++ [44]) D Hz.out rfl (ownZ_past HO1.out h4) rfl (by omega) (Nat.le_trans Hb1.out.size h4.size) ?_))
              intro A2 c2 w5 hO2 hw2
              have HB5 := Lib.hid ((thenB Hb1.out h4).trans (below_wrote hw2 (Nat.le_trans Hb1.out.size h4.size) (ownZ_lo HO1.out)))
              have HO5 : Hid (OwnZ w5 w.heap.size A2 c2 (txtTo x r (k + 1))) := by show OwnZ _ _ _ _ _; rw [HP.out]; simpa using hO2
              clear hO2 hw2 h4 HO1 Hb1
              go_wp2
              go_roundw
              case rel => exact ⟨k + 1, m + 1 + D.length, A2, c2, by omega, hm3, by go_num, rfl, HM.out.symm, HO5.out, HB5.out⟩
              case measure => simp [intOf]; omega)
        · obtain rfl : k = n := by omega
          have hs := ownZ_string HO.out
          rw [← Hm.out] at hs
          have HE : Hid (txtTo x r k = fmtL (x :: r)) := by show _ = _; rw [Hn.out]; exact txtTo_end x r
          obtain ⟨T, hT⟩ : ∃ T, T = txtTo x r k := ⟨_, rfl⟩
          rw [← hT] at hs HE
          clear LE hT HO Hm
          go_wp2
          go_ret
          exact ⟨by rw [HE.out]; rfl, Hb.out⟩
end Go.Proofs.YtgkijkenbjjnmaaGreatDoor
