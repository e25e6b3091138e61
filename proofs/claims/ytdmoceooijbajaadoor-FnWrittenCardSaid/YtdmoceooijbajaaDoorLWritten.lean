/- Sequences and modulators are read back from their texts: the law FnWritten gives true at every input. No condition; what the listed variables of Go's library hold is tied to its text. -/
import Derived.Test.YtdmoceooijbajaaDoorParM
import Derived.Test.YtdmoceooijbajaaDoorMkMod2
import Derived.Test.YtdmoceooijbajaaDoorLawAcc
import Derived.Test.YtdmoceooijbajaaDoorCards
import Derived.Test.YtdmoceooijbajaaDoorTie
import Derived.Lay
import Derived.LaidOnce
import Derived.SevenTiedAt
namespace Go.Proofs.YtdmoceooijbajaaDoor.writtenLaw
open Go.ChangeShapes Go.WideShapes Go.ChangeAt Go.RowKit
set_option linter.unusedVariables false
set_option linter.unusedSimpArgs false
theorem mod_small {l s : Nat} {cs : List Int} (l1 : 2 ≤ l) (l2 : l ≤ 6) (s1 : 1 ≤ s) (s2 : s ≤ 64) (k1 : 1 ≤ cs.length) (k2 : cs.length ≤ 4) (h : ∀ v ∈ cs, -64 ≤ v ∧ v ≤ 64) : modOk l s cs = true := by
  have h1 : cs.all coefB = true := List.all_eq_true.2 fun v hv => by have := h v hv; exact inB_true (by omega) (by omega)
  have h2 : quantOk l s = true := quantOk_of (by omega) (by omega) (by omega) (by omega)
  have h3 : inB cs.length 1 6 = true := inB_true (by omega) (by omega)
  simp [modOk, h1, h2, h3]
theorem step_app_listG {w : World} {ops : Array Oper} {o : Oper} {a : Act} {K : Act → World → Prop} {Q : Exit → Act → World → Prop} {E : Prop} (hw : Region.wanted o (yielded ops a.tmps) = true) (s x : Operand)
    (ho : o.op = .call { callee := .builtin .append, args := #[s, x], argTypes := #[22, 22] })
    (B : Nat) (A : Option Addr) (c n : Nat) (xs : List Int) (hl : xs.length = n) (hs : a.eval s = .slice A n c) (hown : Own w B A c xs) (B2 : Nat) (A2 : Option Addr) (c2 : Nat) (ys : List Int) (hx : a.eval x = .slice A2 ys.length c2) (hr : Rd w B2 A2 ys)
    (hn : n + ys.length ≤ 1048576) (hB : B ≤ w.heap.size)
    (h : ∀ A' c' w', Own w' B A' c' (xs ++ ys) → Wrote w w' A → Moved A A' w.heap.size → K (a.put o.dst (.slice A' (n + ys.length) c')) w') :
    if Region.wanted o (yielded ops a.tmps) = true then Oper.wp Tryd.prog o a w K Q else E := by
  subst hl
  rw [if_pos hw]
  obtain ⟨A', c', w', hrun, h2, h3, h5⟩ := run_app_list w o.type B A c xs hown B2 A2 c2 ys hr (by omega) hB
  unfold Oper.wp execOp
  simp only [ho, resolve, invoke, builtin, Sem.run_bind, Sem.run_pure, Result.andThen_ok, List.map_toArray, List.map_cons, List.map_nil, hs, hx, hrun]
  exact h A' c' w' h2 h3 h5
set_option maxHeartbeats 1000000 in
theorem implShape_yes (l s : Int) (A : Option Addr) (c : Nat) (cs : List Int) (w : World) (hr : Rd w w.heap.size A cs) (h : modOk l s cs = true) :
    Calls Tryd.prog 22 #[.agg #[.int .i64 l, .int .i64 s, .slice A cs.length c]] w (RetSl w (1 :: cs)) := by
  obtain ⟨hc, hq, c1, c2⟩ := mod_parts h
  have hb0 : Below w.heap.size w (w.alloc (.cells #[.int .i64 l, .int .i64 s, .slice A cs.length c] 31)) := (Below.refl _ _).alloc (Nat.le_refl _) _
  have hcall := implIsModulator_any l s A c cs (w.alloc (.cells #[.int .i64 l, .int .i64 s, .slice A cs.length c] 31)) (hr.past hb0) (by omega)
  rw [h] at hcall
  have B0 := Blk.new w 31 #[.int .i64 l, .int .i64 s, .slice A cs.length c]
  have Hb := Lib.hid hb0
  have R := Lib.hid (hr.past hb0)
  have Hc := Lib.hid hcall
  clear hb0 hcall hr hc hq h
  go_enter Tryd.func22, Tryd.ntmps22
  go_wp2_with fail
  refine Hc.out.mono ?_; rintro e w1 ⟨rfl, h1⟩
  have bx : Below w1.heap.size w1 (w1.alloc (.cells #[.int .i64 1] 3)) := (Below.refl _ _).alloc (Nat.le_refl _) _
  have B1 := (B0.past h1).past bx
  replace Hb := Lib.hid (thenB Hb.out h1)
  have R1 := Lib.hid ((R.out.past h1).past bx)
  have O0 := Lib.hid (own_cells (B := w1.heap.size) (xs := [1]) w1 #[.int .i64 1] (Nat.le_refl _) rfl (by simp [maxLen]))
  have q2 := (B0.past h1).cell 2
  have q2' := B1.cell 2
  simp at q2 q2'
  clear B0 Hc h1 B1 R
  have HX := Lib.hid bx
  clear bx
  go_wp2_with (at_builtin; refine app_list rfl (.tmp 6) (.tmp 8) rfl w1.heap.size (some ⟨w1.heap.size, 0, none⟩) 1 1 [1] rfl rfl O0.out w1.heap.size.succ A c cs rfl (by simpa using R1.out) (by omega) (by simp) ?_)
  intro A1 c1' w2 O1 hw1 hm1
  go_wp2
  go_ret
  exact ⟨A1, c1', by simp [Nat.add_comm], own_mono O1 Hb.out.size, below_app (thenB Hb.out HX.out) hw1 (own_mono O0.out Hb.out.size) (by simp; have := Hb.out.size; omega)⟩
set_option maxRecDepth 100000 in
set_option maxHeartbeats 1000000 in
theorem walkw (w : World) (A0 : Option Addr) (n0 c0 : Nat) (l0 : n0 ≤ c0) (m0 : c0 ≤ maxLen) (r0 : RdB w w.heap.size A0 n0) :
    Calls Tryd.prog 5 #[.slice A0 n0 c0] w fun e w' => e = .returned (.bool true) ∧ Below w.heap.size w w' := by
  unfold maxLen at m0
  by_cases hn : n0 ≤ 1048576
  case neg =>
    have hx : 1048576 < n0 := by omega
    clear hn
    go_enter Tryd.func5, Tryd.ntmps5
    go_wp2
    go_ret
    exact ⟨rfl, Below.refl _ _⟩
  have Hb : Hid (Below w.heap.size w w) := Below.refl _ _
  go_enter Tryd.func5, Tryd.ntmps5
  go_wp2_with fail
  refine (MakeSequence_any _ _ _ _ _ _ (r0.past Hb.out) (by omega) (by omega) (by omega) (by omega) (by omega)).mono ?_
  rintro e w1 ⟨Ax, cx, x, rfl, hpx, Ox, h1⟩
  replace Hb := Lib.hid (thenB Hb.out h1)
  have t1 : w.heap.size ≤ w1.heap.size := h1.size
  have Lx := own_lo Ox
  have Ux := own_hi Ox
  clear h1
  have hxl : x.length ≤ 20 := by have := hpx.1; omega
  have hxs : seqOk x = true := seqOk_of (fun v hv => by have := hpx.2 v hv; omega) (by omega)
  clear hpx
  have Hxs := Lib.hid hxs
  clear hxs
  go_wp2_with fail
  refine (fresh_any _ _ _ _ _ (r0.past Hb.out) (by omega) (by omega) (by omega)).mono ?_
  rintro e w2 ⟨Af, cf, nf, rfl, hnf, Rf, h2⟩
  replace Ox := own_past Ox h2
  replace Hb := Lib.hid (thenB Hb.out h2)
  have t2 : w1.heap.size ≤ w2.heap.size := h2.size
  clear h2
  go_wp2_with fail
  refine (MakeModulator_any _ _ _ _ Rf (by omega)).mono ?_
  rintro e w3 ⟨l, s, cs, Am, cm, rfl, l1, l2, s1, s2, k1, k2, hcs, Om, h3⟩
  replace Ox := own_past Ox h3
  replace Hb := Lib.hid (thenB Hb.out h3)
  replace Rf := Rf.past h3
  have t3 : w2.heap.size ≤ w3.heap.size := h3.size
  have Lm := own_lo Om
  have Um := own_hi Om
  clear h3
  clear Rf
  have hmod : modOk l s cs = true := mod_small l1 l2 s1 s2 k1 k2 hcs
  clear hcs
  have bx : Below w3.heap.size w3 (w3.alloc (.cells #[.int .i64 l, .int .i64 s, .slice Am cs.length cm] 31)) := (Below.refl _ _).alloc (Nat.le_refl _) _
  have B0 := Blk.new w3 31 #[.int .i64 l, .int .i64 s, .slice Am cs.length cm]
  have VB0 : w3.heap.size < (w3.alloc (.cells #[.int .i64 l, .int .i64 s, .slice Am cs.length cm] 31)).heap.size := by simp
  replace Ox := own_past Ox bx
  replace Om := own_past Om bx
  replace Hb := Lib.hid (thenB Hb.out bx)
  clear bx
  have HFx : Hid (∀ W, Rd W W.heap.size Ax x → Calls Tryd.prog 19 #[.slice Ax x.length cx] W fun e w' => e = .returned (.string (bs (fmtL x))) ∧ Below W.heap.size W w') := fun W h => by have := implFormat_any Ax cx x W h (by omega); unfold fmtI at this; rw [if_pos Hxs.out] at this; exact this
  have HPx : Hid (∀ W, Calls Tryd.prog 7 #[.string (bs (fmtL x))] W fun e w' => ∃ A c, e = .returned (.tuple #[.slice A x.length c, .bool true]) ∧ Own w' W.heap.size A c x ∧ Below W.heap.size W w') := fun W => by have h := implPars_any (bs (fmtL x)) W (by rw [bs_size]; have := fmtL_le Hxs.out; omega); have e1 : (bs (fmtL x)).data.toList = fmtL x := (by simp [bs]); rw [e1, pars_fmt Hxs.out] at h; exact h
  have HFm : Hid (∀ W, Rd W W.heap.size Am cs → Calls Tryd.prog 20 #[.agg #[.int .i64 l, .int .i64 s, .slice Am cs.length cm]] W fun e w' => e = .returned (.string (bs (fmtM l s cs))) ∧ Below W.heap.size W w') := fun W h => by have := implFormatM_any l s Am cm cs W h (by omega); unfold fmtMI at this; rw [if_pos hmod] at this; exact this
  have hfl : (fmtM l s cs).length ≤ 40000 := by have h1 := fmtL_le (modOk_seq hmod); have h2 := @decI_le (l : Int) (by omega) (by omega); have h3 := @decI_le (s : Int) (by omega) (by omega); simp [fmtM, modT]; omega
  have HPm : Hid (∀ W, Calls Tryd.prog 12 #[.string (bs (fmtM l s cs))] W fun e w' => ∃ A c, e = .returned (.tuple #[.agg #[.int .i64 l, .int .i64 s, .slice A cs.length c], .bool true]) ∧ Own w' W.heap.size A c cs ∧ Below W.heap.size W w') := fun W => by have h := implParM_any (bs (fmtM l s cs)) W (by rw [bs_size]; omega); have e1 : (bs (fmtM l s cs)).data.toList = fmtM l s cs := (by simp [bs]); rw [e1, parm_fmt hmod] at h; exact h
  have HSh : Hid (∀ W A c, Rd W W.heap.size A cs → Calls Tryd.prog 22 #[.agg #[.int .i64 l, .int .i64 s, .slice A cs.length c]] W fun e w' => ∃ A' c', e = .returned (.slice A' (1 + cs.length) c') ∧ Own w' W.heap.size A' c' (1 :: cs) ∧ Below W.heap.size W w') := fun W A c h => (implShape_yes l s A c cs W h hmod).mono fun e w' ⟨A', c', he, ho, hb⟩ => ⟨A', c', by rw [he, List.length_cons, Nat.add_comm], ho, hb⟩
  have HL1 : Hid ((1 :: cs : List Int).length = 1 + cs.length) := by show _ = _; rw [List.length_cons, Nat.add_comm]
  clear hmod hfl
  have B0c0 := B0.cell 0
  have B0c1 := B0.cell 1
  have B0c2 := B0.cell 2
  simp at B0c0 B0c1 B0c2
  go_wp2_with fail
  refine (HFx.out _ (own_rd Ox)).mono ?_
  rintro e w4 ⟨rfl, h4⟩
  replace Ox := own_past Ox h4
  replace Om := own_past Om h4
  replace B0 := B0.past h4
  replace Hb := Lib.hid (thenB Hb.out h4)
  have t5 : (w3.alloc (.cells #[.int .i64 l, .int .i64 s, .slice Am cs.length cm] 31)).heap.size ≤ w4.heap.size := h4.size
  clear h4
  clear B0c0 B0c1 B0c2
  have B0c0 := B0.cell 0
  have B0c1 := B0.cell 1
  have B0c2 := B0.cell 2
  simp at B0c0 B0c1 B0c2
  go_wp2_with fail
  refine (HPx.out _).mono ?_
  rintro e w5 ⟨Ay, cy, rfl, Oy, h5⟩
  replace Ox := own_past Ox h5
  replace Om := own_past Om h5
  replace B0 := B0.past h5
  replace Hb := Lib.hid (thenB Hb.out h5)
  have t6 : w4.heap.size ≤ w5.heap.size := h5.size
  have Ly := own_lo Oy
  have Uy := own_hi Oy
  clear h5
  clear B0c0 B0c1 B0c2
  have B0c0 := B0.cell 0
  have B0c1 := B0.cell 1
  have B0c2 := B0.cell 2
  simp at B0c0 B0c1 B0c2
  go_wp2_with fail
  refine (HFm.out _ (own_rd Om)).mono ?_
  rintro e w6 ⟨rfl, h6⟩
  replace Ox := own_past Ox h6
  replace Om := own_past Om h6
  replace Oy := own_past Oy h6
  replace B0 := B0.past h6
  replace Hb := Lib.hid (thenB Hb.out h6)
  have t7 : w5.heap.size ≤ w6.heap.size := h6.size
  clear h6
  clear B0c0 B0c1 B0c2
  have B0c0 := B0.cell 0
  have B0c1 := B0.cell 1
  have B0c2 := B0.cell 2
  simp at B0c0 B0c1 B0c2
  go_wp2_with fail
  refine (HPm.out _).mono ?_
  rintro e w7 ⟨An, cn, rfl, On, h7⟩
  replace Ox := own_past Ox h7
  replace Om := own_past Om h7
  replace Oy := own_past Oy h7
  replace B0 := B0.past h7
  replace Hb := Lib.hid (thenB Hb.out h7)
  have t8 : w6.heap.size ≤ w7.heap.size := h7.size
  have Ln := own_lo On
  have Un := own_hi On
  clear h7
  have bx : Below w7.heap.size w7 (w7.alloc (.cells #[.int .i64 l, .int .i64 s, .slice An cs.length cn] 31)) := (Below.refl _ _).alloc (Nat.le_refl _) _
  have B1 := Blk.new w7 31 #[.int .i64 l, .int .i64 s, .slice An cs.length cn]
  have VB1 : w7.heap.size < (w7.alloc (.cells #[.int .i64 l, .int .i64 s, .slice An cs.length cn] 31)).heap.size := by simp
  replace Ox := own_past Ox bx
  replace Om := own_past Om bx
  replace Oy := own_past Oy bx
  replace On := own_past On bx
  replace B0 := B0.past bx
  replace Hb := Lib.hid (thenB Hb.out bx)
  clear bx
  have bx : Below (w7.alloc (.cells #[.int .i64 l, .int .i64 s, .slice An cs.length cn] 31)).heap.size (w7.alloc (.cells #[.int .i64 l, .int .i64 s, .slice An cs.length cn] 31)) (w7.alloc (.cells #[.int .i64 l, .int .i64 s, .slice An cs.length cn] 31)).drew := (Below.refl _ _).drew
  replace Ox := own_past Ox bx
  replace Om := own_past Om bx
  replace Oy := own_past Oy bx
  replace On := own_past On bx
  replace B0 := B0.past bx
  replace B1 := B1.past bx
  replace Hb := Lib.hid (thenB Hb.out bx)
  clear bx
  have t10 : (w7.alloc (.cells #[.int .i64 l, .int .i64 s, .slice An cs.length cn] 31)).heap.size ≤ (w7.alloc (.cells #[.int .i64 l, .int .i64 s, .slice An cs.length cn] 31)).drew.heap.size := Nat.le_refl _
  clear HFx HPx HFm HPm
  clear B0c0 B0c1 B0c2
  have B0c0 := B0.cell 0
  have B0c1 := B0.cell 1
  have B0c2 := B0.cell 2
  have B1c0 := B1.cell 0
  have B1c1 := B1.cell 1
  have B1c2 := B1.cell 2
  simp at B0c0 B0c1 B0c2 B1c0 B1c1 B1c2
  have hll : (l == l) = true := by simp
  have hss : (s == s) = true := by simp
  go_wp2_with fail
  go_region_held3 (fun w' => w'.cell? ⟨w3.heap.size, 0, none⟩ = some (.int .i64 l) ∧ w'.cell? ⟨w3.heap.size, 1, none⟩ = some (.int .i64 s) ∧ w'.cell? ⟨w3.heap.size, 2, none⟩ = some (.slice Am cs.length cm) ∧ w'.cell? ⟨w7.heap.size, 0, none⟩ = some (.int .i64 l) ∧ w'.cell? ⟨w7.heap.size, 1, none⟩ = some (.int .i64 s) ∧ w'.cell? ⟨w7.heap.size, 2, none⟩ = some (.slice An cs.length cn)) (first | go_keep)
    (first
    | (go_at_call 21; (with_reducible refine (ints_any Ax Ay cx cy x x (w7.alloc (.cells #[.int .i64 l, .int .i64 s, .slice An cs.length cn] 31)).drew (own_rd Ox) (own_rd Oy) (by omega)).mono ?_); rintro e w8 ⟨rfl, h⟩; rw [eqB_self]; replace Ox := own_past Ox h; replace Om := own_past Om h; replace Oy := own_past Oy h; replace On := own_past On h; replace B0 := B0.past h; replace B1 := B1.past h; replace Hb := Lib.hid (thenB Hb.out h); clear B0c0 B0c1 B0c2 B1c0 B1c1 B1c2; have B0c0 := B0.cell 0; have B0c1 := B0.cell 1; have B0c2 := B0.cell 2; have B1c0 := B1.cell 0; have B1c1 := B1.cell 1; have B1c2 := B1.cell 2; simp at B0c0 B0c1 B0c2 B1c0 B1c1 B1c2; clear h)
    | (go_at_call 21; (with_reducible refine (ints_any An Am cn cm cs cs w8 (own_rd On) (own_rd Om) (by omega)).mono ?_); rintro e w9 ⟨rfl, h⟩; rw [eqB_self]; replace Ox := own_past Ox h; replace Om := own_past Om h; replace Oy := own_past Oy h; replace On := own_past On h; replace B0 := B0.past h; replace B1 := B1.past h; replace Hb := Lib.hid (thenB Hb.out h); clear B0c0 B0c1 B0c2 B1c0 B1c1 B1c2; have B0c0 := B0.cell 0; have B0c1 := B0.cell 1; have B0c2 := B0.cell 2; have B1c0 := B1.cell 0; have B1c1 := B1.cell 1; have B1c2 := B1.cell 2; simp at B0c0 B0c1 B0c2 B1c0 B1c1 B1c2; have hq : Below w9.heap.size w9 (w9.alloc (.cells #[.int .i64 1] 3)) := ((Below.refl _ _).alloc (Nat.le_refl _) _); have HQ := Lib.hid hq; have Z := Lib.hid (own_cells (B := w9.heap.size) (xs := [1]) w9 #[.int .i64 1] (Nat.le_refl _) rfl (by simp [maxLen])); have OnB := Lib.hid (own_past On hq); have OmB := Lib.hid (own_past Om hq); have B0B := B0.past hq; have B1B := B1.past hq; have zq : w9.heap.size ≤ (w9.alloc (.cells #[.int .i64 1] 3)).heap.size := hq.size; have y0 := B0.lt; have y1 := B1.lt; clear h hq)
    | (go_at_call 22; (with_reducible refine (HSh.out w9 An cn (own_rd On)).mono ?_); rintro e w10 ⟨As, cs2, rfl, Os, h⟩; replace Ox := own_past Ox h; replace Om := own_past Om h; replace Oy := own_past Oy h; replace On := own_past On h; replace B0 := B0.past h; replace B1 := B1.past h; replace Hb := Lib.hid (thenB Hb.out h); clear B0c0 B0c1 B0c2 B1c0 B1c1 B1c2; have B0c0 := B0.cell 0; have B0c1 := B0.cell 1; have B0c2 := B0.cell 2; have B1c0 := B1.cell 0; have B1c1 := B1.cell 1; have B1c2 := B1.cell 2; simp at B0c0 B0c1 B0c2 B1c0 B1c1 B1c2; have y2 : w9.heap.size ≤ w10.heap.size := h.size; clear h; have hq : Below w10.heap.size w10 (w10.alloc (.cells #[.int .i64 1] 3)) := ((Below.refl _ _).alloc (Nat.le_refl _) _); have ZA := Lib.hid (own_cells (B := w10.heap.size) (xs := [1]) w10 #[.int .i64 1] (Nat.le_refl _) rfl (by simp [maxLen])); have USA := Lib.hid (own_hi Os); have OsA := Lib.hid (own_past Os hq); have OmA := Lib.hid (own_past Om hq); have HbA := Lib.hid (thenB Hb.out hq); have B0A := B0.past hq; have B1A := B1.past hq; have HbX := Lib.hid Hb.out; clear hq)
    | (go_at_call 22; (with_reducible refine (HSh.out (w9.alloc (.cells #[.int .i64 1] 3)) An cn (own_rd OnB.out)).mono ?_); rintro e w10 ⟨As, cs2, rfl, Os, h⟩; have y2 : (w9.alloc (.cells #[.int .i64 1] 3)).heap.size ≤ w10.heap.size := h.size; have ZB := Lib.hid (own_past Z.out h); have OsB := Lib.hid Os; have OmC := Lib.hid (own_past OmB.out h); have HbB := Lib.hid (thenB (thenB Hb.out HQ.out) h); have HbY := Lib.hid Hb.out; have B0D := B0B.past h; have B1D := B1B.past h; clear B0c0 B0c1 B0c2 B1c0 B1c1 B1c2; have B0c0 := B0D.cell 0; have B0c1 := B0D.cell 1; have B0c2 := B0D.cell 2; have B1c0 := B1D.cell 0; have B1c1 := B1D.cell 1; have B1c2 := B1D.cell 2; simp at B0c0 B0c1 B0c2 B1c0 B1c1 B1c2; clear h Os)
    | (refine step_app_listG (by rfl) (.tmp 55) (.tmp 57) (by rfl) w10.heap.size (some ⟨w10.heap.size, 0, none⟩) 1 1 [1] rfl (by rfl) ZA.out (w10.alloc (.cells #[.int .i64 1] 3)).heap.size Am cm cs (by rfl) (own_rd OmA.out) (by omega) (by simp) ?_; intro A5 c5 w11 O5 hw5 mv5; have OsE := Lib.hid (own_wrote OsA.out hw5 (apart_lt USA.out (own_lo ZA.out) (Nat.le_refl _))); have HbE := Lib.hid (below_app HbA.out hw5 (own_mono ZA.out HbX.out.size) HbA.out.size); have O5E := Lib.hid O5; have B0E := blk_wrote B0A hw5 (own_lo ZA.out) (by omega); have B1E := blk_wrote B1A hw5 (own_lo ZA.out) (by omega); clear B0c0 B0c1 B0c2 B1c0 B1c1 B1c2; have B0c0 := B0E.cell 0; have B0c1 := B0E.cell 1; have B0c2 := B0E.cell 2; have B1c0 := B1E.cell 0; have B1c1 := B1E.cell 1; have B1c2 := B1E.cell 2; simp at B0c0 B0c1 B0c2 B1c0 B1c1 B1c2; clear O5 hw5 mv5)
    | (refine step_app_listG (by rfl) (.tmp 55) (.tmp 57) (by rfl) w9.heap.size (some ⟨w9.heap.size, 0, none⟩) 1 1 [1] rfl (by rfl) ZB.out w10.heap.size Am cm cs (by rfl) (own_rd OmC.out) (by omega) (by omega) ?_; intro A5 c5 w11 O5 hw5 mv5; have OsE := Lib.hid (own_wrote OsB.out hw5 (apart_gt (own_lo OsB.out) (own_hi Z.out) (Nat.le_refl _))); have HbE := Lib.hid (below_app HbB.out hw5 (own_mono ZB.out HbY.out.size) HbB.out.size); have O5E := Lib.hid O5; have B0E := blk_wrote B0D hw5 (own_lo ZB.out) (by omega); have B1E := blk_wrote B1D hw5 (own_lo ZB.out) (by omega); clear B0c0 B0c1 B0c2 B1c0 B1c1 B1c2; have B0c0 := B0E.cell 0; have B0c1 := B0E.cell 1; have B0c2 := B0E.cell 2; have B1c0 := B1E.cell 0; have B1c1 := B1E.cell 1; have B1c2 := B1E.cell 2; simp at B0c0 B0c1 B0c2 B1c0 B1c1 B1c2; clear O5 hw5 mv5)
    | (go_at_call 21; (with_reducible refine (ints_same As A5 cs2 c5 (1 :: cs) (1 + cs.length) w11 (own_rd OsE.out) (own_rd O5E.out) HL1.out (by omega)).mono ?_); rintro e w12 ⟨rfl, h⟩; have HbF := Lib.hid (thenB HbE.out h); have B0F := B0E.past h; have B1F := B1E.past h; clear B0c0 B0c1 B0c2 B1c0 B1c1 B1c2; have B0c0 := B0F.cell 0; have B0c1 := B0F.cell 1; have B0c2 := B0F.cell 2; have B1c0 := B1F.cell 0; have B1c1 := B1F.cell 1; have B1c2 := B1F.cell 2; simp at B0c0 B0c1 B0c2 B1c0 B1c1 B1c2; clear h))
  all_goals
    go_wp2_with fail
    go_ret
    exact ⟨rfl, HbF.out⟩
set_option maxRecDepth 100000 in
theorem lifted (os : Os) (started : os.Started) (H : Type) (enc : TypeId × Value → H) :
    ReturnsInHanded {} Tryd.checked os 5 .any (fun w args => (Rows.fnWrittenSpec.pre enc Tryd.prog Tryd.f5 [] false w args ∧ laidMetH Tryd.prog Rows.fnWrittenRow.laid w) ∧ sizedMet enc Tryd.prog Tryd.f5 (OpenSpec.ofChange Rows.fnWrittenSpec) false w args) (Rows.fnWrittenSpec.post enc Tryd.prog Tryd.f5 false true false false) := by
  refine returnsInHanded_of_change_and (C := Tryd.checked) (X := fun w _ => laidMetH Tryd.prog Rows.fnWrittenRow.laid w) (fun _ _ _ hh h => h.of_heap hh) own started (by kernel_rfl) Tryd.func5
    (ChangeSpec.witness_shaped (enc := enc) (C := Tryd.checked) (os := os) (X := fun w _ => laidMetH Tryd.prog Rows.fnWrittenRow.laid w) false (World.laidAll Tryd.prog os Rows.fnWrittenRow.laid) #[.slice none 0 0] 8 (World.laidAll_os _ _ _)
      (World.shaped_of_ZipB (by kernel_rfl) (by kernel_rfl)) (by kernel_rfl) (by kernel_rfl) (by kernel_rfl)
      (by rw [MakeChecks.laidMetH_plain _ _ _ (by kernel_rfl)]; exact laidMet_laidAll _ (by kernel_rfl) (by kernel_rfl))) ?_
  intro W base args ds gs before hval0 hW hcnd _ hL _
  have hval : ∀ (j : Nat) t v, Tryd.f5.params[j]? = some t → args[j]? = some v → Value.okWide Tryd.prog W .any base t v := hval0
  have hW' := hW
  obtain ⟨p, q, hA0, hV, rfl, hfz, hnd⟩ := hW
  have hA : DataW.TrodAll enc Tryd.prog W 0 (fun _ => true) true Tryd.f5.params.toList args.toList ds p := hA0
  rw [Tryd.params5] at hA hval
  obtain ⟨v0, vs0, d0, ds0, p0, q0, hargs, rfl, rfl, h0, g0⟩ := trodAll_cons hA
  obtain ⟨rfl, rfl, rfl⟩ := trodAll_nil g0
  obtain rfl : args = #[v0] := by cases args; simp_all
  obtain ⟨rfl, rfl⟩ := trodVars_none hV
  have k0 := h0
  have lt0 : ∀ x ∈ p0, x.block < W.heap.size := by obtain ⟨m, hm⟩ := k0; exact DataW.trod_lt m _ _ _ hm
  obtain ⟨A0, z0, c0, rfl, l0, m0, r0⟩ := arg_bytes Tryd.underlying36 Tryd.underlying5 (by kernel_rfl) (hval 0 36 v0 rfl rfl) h0
  clear hA0 hval0
  refine (walkw W A0 z0 c0 l0 m0 r0).mono fun e W' ⟨he, bel⟩ => ?_
  subst he
  exact ⟨_, rfl, _, _, _, [], _, [], hW', trodAll_mk1 (shut_bool Tryd.underlying4 _), (trodAll_cons_mk (Below.trod laidOut (by kernel_rfl) (of_decide_eq_true (by kernel_rfl)) k0 bel lt0) trodAll_mk0), rfl, bel.frame _, fun h => by cases h⟩
theorem over : Rows.fnWrittenRow.holds Tryd.pinned (OpenSpec.ofChange Rows.fnWrittenSpec) :=
  OpenClaim.holds_of_wide 5 Tryd.f5 rfl rfl rfl rfl rfl rfl rfl ⟨rfl, rfl, rfl, rfl, rfl⟩ rfl rfl rfl rfl rfl (by kernel_rfl) Tryd.func5 (by kernel_rfl)
    (of_decide_eq_true (by kernel_rfl)) (by unfold Func.isWrapper; first | (rw [if_pos (by decide +kernel)]; kernel_rfl) | (rw [if_neg (by decide +kernel)]; exact ⟨rfl, rfl⟩))
    (fun os started H enc _ => lifted os started H enc)
theorem proved : Rows.FnWrittenCardSaid :=
  Claim7.holds_tied_plain_at .later [] [.data, .pinned] true (true, "ee83e3244172a01b3e30564c258e068cce6e6ea233917a0aea5f5c041fb14071") false over (fun _ h => by cases h) (by kernel_rfl) (fun _ h => by cases h) fnWritten_row_tie rfl ⟨rfl, rfl⟩ (by kernel_rfl) rfl
    (fun f fn hf hfn => by
      obtain rfl : f = 5 := Option.some.inj ((show Tryd.prog.funcNamed "loop.example/g03228/laws.FnWritten" = some 5 by kernel_rfl).symm.trans hf) |>.symm
      obtain rfl : fn = Tryd.f5 := (Option.some.inj (Tryd.func5.symm.trans hfn)).symm
      exact ⟨by kernel_rfl, fun j t ht => by
        rw [Tryd.params5] at ht
        have hm : t ∈ [36] := by simpa using Array.mem_of_getElem? ht
        have hall : ([36].all fun u => !Tryd.prog.wantsStandIn u) = true := by kernel_rfl
        exact (show Tryd.prog.wantsStandIn t = false by simpa using List.all_eq_true.1 hall t hm)⟩)
    (by kernel_rfl)

end Go.Proofs.YtdmoceooijbajaaDoor.writtenLaw
