/- More words for slices of slices of ints: a row that grows where it lies, marks that touch the rows alone, and heldIntSS. -/
import Derived.Test.YteabibkbmigpaaaMatFn
import Derived.Test.YteabibkbmigpaaaClone
namespace Go.Proofs.Yteabibkbmigpaaa
open Go.RowKit
set_option linter.unusedVariables false
set_option linter.unusedSimpArgs false
theorem wrote_block {w w' : World} {A' D : Option Addr} (hw : Wrote w w' A') (hD : Hi D w.heap.size) (hap : Apart D A') : ∀ a, D = some a → w'.heap[a.block]? = w.heap[a.block]? := fun a e =>
  hw.block _ (hD a e) (by
    cases A' with
    | none =>
      intro e'
      simp [Go.Proofs.Yteabibkbmigpaaa.row] at e'
    | some a' => exact apart_row hap a e (by simp))
theorem moved_apart {A A' D : Option Addr} {n : Nat} (h : Apart A D) (hm : Moved A A' n) (hh : Hi D n) : Apart D A' := apart_symm (apart_moved h hm hh)
/-- A row is appended to, and laid anew. -/
theorem OwnM.reset {w w' : World} {B g c j c' : Nat} {A' : Option Addr} {rs : List Rw} {ys : List Int} (h : OwnM w B (some ⟨g, 0, none⟩) c rs) (hj : j < rs.length) (hw : Wrote w w' rs[j].A) (ho : Own w' B A' c' ys) (hm : Moved rs[j].A A' w.heap.size) :
    OwnM (w'.setCell ⟨g, j, none⟩ (.slice A' ys.length c')) B (some ⟨g, 0, none⟩) c (rs.set j ⟨A', c', ys⟩) := by
  have hmem := List.getElem_mem hj
  have hgA : Apart (some ⟨g, 0, none⟩) A' := moved_apart (apart_symm (h.off _ hmem)) hm h.his.1
  have oth : ∀ i (hi : i < rs.length), i ≠ j → Apart rs[i].A A' := fun i hi hne => moved_apart (h.apart j i hj hi (Ne.symm hne)) hm (h.his.2 _ (List.getElem_mem hi))
  have hg : g < w.heap.size := h.his.1 _ rfl
  have out' := out_block h.out (wrote_block hw h.his.1 (h.off _ hmem))
  have hst := World.ownsRow.stored out' j (.slice A' ys.length c')
  have hgr := hst.2
  have keep : ∀ D : Option Addr, Hi D w'.heap.size → Apart (some ⟨g, 0, none⟩) D → ∀ a, D = some a → (w'.setCell ⟨g, j, none⟩ (.slice A' ys.length c')).heap[a.block]? = w'.heap[a.block]? := fun D hD hap a e =>
    hgr.block _ (hD a e) (by
      have := hap _ a rfl e
      simp
      exact fun e => this e.symm)
  have hhi : ∀ D : Option Addr, Hi D w.heap.size → Hi D w'.heap.size := fun D hD a e => Nat.lt_of_lt_of_le (hD a e) hw.size
  refine ⟨?_, ?_, ?_, ?_⟩
  · have e : (vals rs).set j (Value.slice A' ys.length c') = vals (rs.set j ⟨A', c', ys⟩) := by simp [vals, List.map_set, Rw.val]
    rw [← e, List.length_set]
    exact hst.1
  · intro q hq
    obtain ⟨i, hi, rfl⟩ := List.getElem_of_mem hq
    have hi' : i < rs.length := by simpa using hi
    by_cases hij : i = j
    · subst hij
      rw [List.getElem_set_self]
      exact own_block ho (keep _ (own_hi ho) hgA)
    · rw [List.getElem_set_ne (Ne.symm hij)]
      have hr := h.row _ (List.getElem_mem hi')
      have o1 := own_block hr (wrote_block hw (own_hi hr) (h.apart i j hi' hj hij))
      exact own_block o1 (keep _ (own_hi o1) (h.off _ (List.getElem_mem hi')))
  · intro i k hi hk hik
    have hi' : i < rs.length := by simpa using hi
    have hk' : k < rs.length := by simpa using hk
    by_cases h1 : i = j
    · subst h1
      rw [List.getElem_set_self, List.getElem_set_ne (by omega)]
      exact apart_symm (oth k hk' (by omega))
    · by_cases h2 : k = j
      · subst h2
        rw [List.getElem_set_self, List.getElem_set_ne (by omega)]
        exact oth i hi' h1
      · rw [List.getElem_set_ne (by omega), List.getElem_set_ne (by omega)]
        exact h.apart i k hi' hk' hik
  · intro q hq
    rcases List.mem_or_eq_of_mem_set hq with hq | rfl
    · exact h.off q hq
    · exact hgA
theorem reset_apart {n : Nat} {D A' : Option Addr} {c' j : Nat} {rs : List Rw} {ys : List Int} (hj : j < rs.length) (hm : Moved rs[j].A A' n) (hD : Hi D n) (h : ∀ r ∈ rs, Apart r.A D) : ∀ r ∈ rs.set j ⟨A', c', ys⟩, Apart r.A D := fun r hr => by
  rcases List.mem_or_eq_of_mem_set hr with hr | rfl
  · exact h r hr
  · exact apart_moved (h _ (List.getElem_mem hj)) hm hD
/-- append in a region that draws its order. -/
theorem step_app {w : World} {ops : Array Oper} {o : Oper} {a : Act} {K : Act → World → Prop} {Q : Exit → Act → World → Prop} {E : Prop} (hgd : o.guard = none) (s x : Operand)
    (ho : o.op = .call { callee := .builtin .append, args := #[s, x], argTypes := #[26, 26] })
    (B : Nat) (A : Option Addr) (c n : Nat) (xs : List Int) (hl : xs.length = n) (hs : a.eval s = .slice A n c) (hown : Own w B A c xs) (g : Nat) (v : Int) (hx : a.eval x = .slice (some ⟨g, 0, none⟩) 1 1) (hc : w.cell? ⟨g, 0, none⟩ = some (.int .i64 v))
    (hn : n ≤ 1048576) (hB : B ≤ w.heap.size)
    (h : ∀ A' c' w', Own w' B A' c' (xs ++ [v]) → Wrote w w' A → Moved A A' w.heap.size → K (a.put o.dst (.slice A' (n + 1) c')) w') :
    if Region.wanted o (yielded ops a.tmps) = true then Oper.wp Try.prog o a w K Q else E := by
  subst hl
  have hw : Region.wanted o (yielded ops a.tmps) = true := by simp [Region.wanted, hgd]
  rw [if_pos hw]
  have hr : Rd w w.heap.size (some ⟨g, 0, none⟩) [v] := fun _ => ⟨⟨g, 0, none⟩, rfl, World.block_lt_of_cell? w _ hc, fun j hj => by
    obtain rfl : j = 0 := by simpa using hj
    exact hc⟩
  obtain ⟨A', c', w', hrun, h2, h3, h5⟩ := run_app_list w o.type B A c xs hown w.heap.size (some ⟨g, 0, none⟩) 1 [v] hr (by simp; omega) hB
  have hx' : a.eval x = .slice (some ⟨g, 0, none⟩) [v].length 1 := hx
  unfold Oper.wp execOp
  simp only [ho, resolve, invoke, builtin, Sem.run_bind, Sem.run_pure, Result.andThen_ok, List.map_toArray, List.map_cons, List.map_nil, hs, hx', hrun]
  exact h A' c' w' h2 h3 h5
/-- The world has grown; of what there was at most the blocks of the rows have turned. -/
structure Only (w w' : World) (S : Nat → Prop) : Prop where
  os : w'.os = w.os
  tape : w'.tape = w.tape
  output : w'.output = w.output
  size : w.heap.size ≤ w'.heap.size
  block : ∀ k, k < w.heap.size → ¬ S k → w'.heap[k]? = w.heap[k]?
def inRows (rs : List Rw) (k : Nat) : Prop := ∃ r ∈ rs, ∃ a : Addr, r.A = some a ∧ a.block = k
theorem Only.refl (w : World) (S : Nat → Prop) : Only w w S := ⟨rfl, rfl, rfl, Nat.le_refl _, fun _ _ _ => rfl⟩
theorem Only.trans {a b c : World} {S : Nat → Prop} (h : Only a b S) (k : Only b c S) : Only a c S :=
  ⟨k.os.trans h.os, k.tape.trans h.tape, k.output.trans h.output, Nat.le_trans h.size k.size, fun i hi ho => (k.block i (Nat.lt_of_lt_of_le hi h.size) ho).trans (h.block i hi ho)⟩
theorem Only.of_wrote {w w' : World} {A : Option Addr} {S : Nat → Prop} (h : Wrote w w' A) (hS : ∀ a, A = some a → S a.block) : Only w w' S :=
  ⟨h.os, h.tape, h.output, h.size, fun k hk ho => h.block k hk fun e => by
    cases A with
    | none => simp [row] at e
    | some a =>
      simp [row] at e
      subst e
      exact ho (hS a rfl)⟩
theorem own_only {w w' : World} {B c : Nat} {A : Option Addr} {xs : List Int} {S : Nat → Prop} (h : Own w B A c xs) (hs : Only w w' S) (ha : ∀ a, A = some a → ¬ S a.block) : Own w' B A c xs :=
  own_block h fun a e => hs.block _ (own_lt h a e).2 (ha a e)
theorem rows_not {A : Option Addr} {rs : List Rw} (h : ∀ r ∈ rs, Apart r.A A) : ∀ a, A = some a → ¬ inRows rs a.block := fun a e ⟨r, hr, b, hb, hk⟩ => h r hr b a hb e hk
theorem blk_only {w w' : World} {g : Nat} {t : TypeId} {cs : Array Value} {S : Nat → Prop} (h : Blk w g t cs) (hs : Only w w' S) (ha : ¬ S g) : Blk w' g t cs := (hs.block g h.lt ha).trans h
theorem rd_only {w w' : World} {A : Option Addr} {xs : List Int} {S : Nat → Prop} (h : Rd w w.heap.size A xs) (hs : Only w w' S) (ha : ∀ a, A = some a → ¬ S a.block) : Rd w' w'.heap.size A xs := fun h0 => by
  obtain ⟨ad, e, hb, hc⟩ := h h0
  refine ⟨ad, e, Nat.lt_of_lt_of_le hb hs.size, fun j hj => ?_⟩
  rw [← hc j hj]
  exact World.cell?_of_block (hs.block _ (by rw [block_add]; exact hb) (by rw [block_add]; exact ha ad e))
theorem below_only {w0 w w' : World} {B : Nat} {S : Nat → Prop} (h : Below B w0 w) (hs : Only w w' S) (hB : B ≤ w.heap.size) (hS : ∀ k, S k → B ≤ k) : Below B w0 w' :=
  ⟨hs.os.trans h.os, hs.tape.trans h.tape, hs.output.trans h.output, Nat.le_trans h.size hs.size, fun k hk => (hs.block k (by omega) (fun hk' => by have := hS k hk'; omega)).trans (h.block k hk)⟩
theorem rows_lo {rs : List Rw} {n : Nat} (h : ∀ r ∈ rs, Lo r.A n) : ∀ k, inRows rs k → n ≤ k := fun k ⟨r, hr, a, ha, hk⟩ => by have := h r hr a ha; omega
theorem OwnM.only {w w' : World} {B c : Nat} {A : Option Addr} {rs : List Rw} {S : Nat → Prop} (h : OwnM w B A c rs) (hs : Only w w' S) (ho : ∀ a, A = some a → ¬ S a.block) (hr : ∀ r ∈ rs, ∀ a, r.A = some a → ¬ S a.block) : OwnM w' B A c rs :=
  h.kept (fun a e => hs.block _ (h.his.1 a e) (ho a e)) fun r m a e => hs.block _ (h.his.2 r m a e) (hr r m a e)
set_option maxHeartbeats 1000000 in
theorem markIntSS_only (A : Option Addr) (B c : Nat) (rs : List Rw) (k : Int) (w : World) (hO : OwnM w B A c rs) (hn : rs.length ≤ 1048576) (ht : tot (lists rs) ≤ 1048576) (k1 : 0 ≤ k) (k2 : k ≤ 1099511627776) :
    Calls Try.prog 39 #[.slice A rs.length c, .int .i64 k] w fun e w' => e = .returned (.int .i64 (k + tot (lists rs))) ∧ (∃ qs, MarkTo k rs qs rs.length ∧ OwnM w' 0 A c qs) ∧ Only w w' (inRows rs) := by
  have HO := Lib.hid hO
  have HT := Lib.hid ht
  clear hO ht
  go_enter Try.func39, Try.ntmps39
  go_wp2
  go_loopw [1, 5] (fun q i wr => ∃ (j : Nat) (qs : List Rw), j ≤ rs.length ∧ i = .int .i64 j ∧ q = .int .i64 (k + tot ((lists rs).take j)) ∧ Hid (MarkTo k rs qs j) ∧ Hid (OwnM wr 0 A c qs) ∧ Hid (Only w wr (inRows rs))) (fun _ i _ => rs.length - (intOf i).toNat)
  case atStart => exact ⟨0, rs, by omega, rfl, by simp [tot], markTo_start k rs, HO.out.more (by omega), Only.refl _ _⟩
  case round =>
    obtain ⟨j, qs, hj, rfl, rfl, hM, hQ, hS⟩ := hrel
    by_cases hlt : j < rs.length
    · have hlt' : j < qs.length := by have := hM.out.1; omega
      obtain ⟨ad, rfl, hbl, hcell⟩ := hQ.out.rdm.at_ hlt'
      have d1 : wr.cell? (ad.add j) = some (.slice qs[j].A qs[j].xs.length qs[j].c) := hcell j qs[j] (List.getElem?_eq_getElem hlt')
      have hq := markTo_at hM.out hlt' hlt
      have oj := Lib.hid (hQ.out.row qs[j] (List.getElem_mem hlt'))
      have hle := tot_mem rs[j] (List.getElem_mem hlt)
      have htk := tot_take hlt
      have hmono : tot ((lists rs).take (j + 1)) ≤ tot (lists rs) := by
        have := tot_append ((lists rs).take (j + 1)) ((lists rs).drop (j + 1))
        rw [List.take_append_drop] at this
        omega
      have hml : tot ((lists rs).take j) ≤ 1048576 := by have := HT.out; omega
      have hll : qs[j].xs.length ≤ 1048576 := by have := HT.out; rw [hq]; omega
      have Htk := Lib.hid htk
      have Hq := Lib.hid hq
      clear hcell hle htk hmono hq
      obtain ⟨r, hre⟩ : ∃ r, r = qs[j] := ⟨_, rfl⟩
      have Hre := Lib.hid hre
      rw [← hre] at d1 oj hll
      clear hre
      go_wp2_with fail
      refine (markIntS_any _ _ _ _ _ _ oj.out (by omega) (by omega) (by omega)).mono ?_; rintro e w2 ⟨rfl, O2, W2⟩
      have hst := hQ.out.reRow hlt' (by rw [← Hre.out]; exact W2) (by rw [← Hre.out]; exact O2) (by rw [marks_length, Hre.out])
      have hmk := markTo_step hM.out hlt' hlt
      have hS2 := Lib.hid (hS.out.trans (Only.of_wrote W2 (S := inRows rs) fun a e => ⟨rs[j], List.getElem_mem hlt, a, by rw [← Hq.out, ← Hre.out]; exact e, rfl⟩))
      have Hst : Hid (OwnM w2 0 (some ad) c (qs.set j ⟨qs[j].A, qs[j].c, marks (k + tot ((lists rs).take j)) qs[j].xs.length⟩)) := by rw [← Hre.out] at hst ⊢; exact hst
      have Hmk := Lib.hid hmk
      have hsum : k + (tot ((lists rs).take j) : Int) + (r.xs.length : Int) = k + (tot ((lists rs).take (j + 1)) : Int) := by rw [Htk.out, Hre.out, Hq.out]; omega
      have Hsum := Lib.hid hsum
      clear hst hmk O2 W2 hsum d1
      go_wp2
      go_roundw
      case rel => exact ⟨j + 1, _, by omega, by go_num, by rw [← Hsum.out], Hmk.out, Hst.out, hS2.out⟩
      case measure => simp [intOf]; omega
    · obtain rfl : j = rs.length := by omega
      have e := Lib.hid (tot_take_all rs)
      go_wp2
      go_ret
      exact ⟨by rw [← e.out]; rfl, ⟨qs, hM.out, hQ.out⟩, hS.out⟩
theorem markTo_row {k : Int} {rs qs : List Rw} (h : MarkTo k rs qs rs.length) {i : Nat} (hi : i < qs.length) (hi' : i < rs.length) : qs[i].xs = marks (k + tot ((lists rs).take i)) rs[i].xs.length ∧ qs[i].xs.length = rs[i].xs.length := by
  have e := h.2 i hi'
  rw [if_pos hi', List.getElem?_eq_getElem hi] at e
  have e := Option.some.inj e
  rw [e]
  exact ⟨rfl, marks_length _ _⟩
set_option maxHeartbeats 1000000 in
theorem heldIntSS_any (A : Option Addr) (c : Nat) (rs qs : List Rw) (k : Int) (w : World) (hr : RdM w w.heap.size A qs) (hM : MarkTo k rs qs rs.length) (hn : rs.length ≤ 1048576) (ht : tot (lists rs) ≤ 1048576) (k1 : 0 ≤ k) (k2 : k ≤ 1099511627776) :
    Calls Try.prog 42 #[.slice A rs.length c, .int .i64 k] w fun e w' => e = .returned (.int .i64 (k + tot (lists rs))) ∧ w = w' := by
  have HR := Lib.hid hr
  have HM := Lib.hid hM
  have HT := Lib.hid ht
  clear hr hM ht
  go_enter Try.func42, Try.ntmps42
  go_wp2
  go_loop [1, 5] (fun q i => ∃ j : Nat, j ≤ rs.length ∧ i = .int .i64 j ∧ q = .int .i64 (k + tot ((lists rs).take j))) (fun _ i => rs.length - (intOf i).toNat)
  case atStart => exact ⟨0, by omega, rfl, by simp [tot]⟩
  case round =>
    obtain ⟨j, hj, rfl, rfl⟩ := hrel
    by_cases hlt : j < rs.length
    · have hlt' : j < qs.length := by have := HM.out.1; omega
      obtain ⟨ad, rfl, hbl, hcell⟩ := HR.out.at_ hlt'
      obtain ⟨hx, hxl⟩ := markTo_row HM.out hlt' hlt
      have d1 : w.cell? (ad.add j) = some (.slice qs[j].A rs[j].xs.length qs[j].c) := by rw [← hxl]; exact hcell j qs[j] (List.getElem?_eq_getElem hlt')
      have RR := HR.out.row hlt'
      rw [hx] at RR
      have hle := tot_mem rs[j] (List.getElem_mem hlt)
      have htk := tot_take hlt
      have hmono : tot ((lists rs).take (j + 1)) ≤ tot (lists rs) := by
        have := tot_append ((lists rs).take (j + 1)) ((lists rs).drop (j + 1))
        rw [List.take_append_drop] at this
        omega
      have hml : tot ((lists rs).take j) ≤ 1048576 := by have := HT.out; omega
      have hll : rs[j].xs.length ≤ 1048576 := by have := HT.out; omega
      have hsum : k + (tot ((lists rs).take j) : Int) + (rs[j].xs.length : Int) = k + (tot ((lists rs).take (j + 1)) : Int) := by rw [htk]; omega
      have Hsum := Lib.hid hsum
      have hnn : ¬ k + (tot ((lists rs).take j) : Int) + (rs[j].xs.length : Int) < 0 := by omega
      clear hcell hle htk hmono hx hxl hsum
      obtain ⟨n, hne⟩ : ∃ n, n = rs[j].xs.length := ⟨_, rfl⟩
      obtain ⟨A2, hA2⟩ : ∃ A2, A2 = qs[j].A := ⟨_, rfl⟩
      rw [← hne] at d1 hll Hsum hnn RR
      rw [← hA2] at d1 RR
      have R2 := Lib.hid RR
      clear hne hA2 RR
      go_wp2_with fail
      refine (heldIntS_any _ _ n _ _ R2.out (by omega) (by omega) (by omega)).mono ?_; rintro e w2 ⟨rfl, rfl⟩
      go_wp2
      go_round
      case rel => exact ⟨j + 1, by omega, by go_num, by rw [← Hsum.out]⟩
      case measure => simp [intOf]; omega
    · obtain rfl : j = rs.length := by omega
      have e := Lib.hid (tot_take_all rs)
      go_wp2
      go_ret
      exact ⟨by rw [← e.out]; rfl, rfl⟩
end Go.Proofs.Yteabibkbmigpaaa
