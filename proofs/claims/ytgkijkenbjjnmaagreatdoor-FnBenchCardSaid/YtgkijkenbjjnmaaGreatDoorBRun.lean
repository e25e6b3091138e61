/- Contracts of the two RunBench. (Printed by mkbrun.py.) -/
import Derived.Test.YtgkijkenbjjnmaaGreatDoorBExecS
namespace Go.Proofs.YtgkijkenbjjnmaaGreatDoor
open Go.RowKit
set_option linter.unusedVariables false
set_option linter.unusedSimpArgs false
def RetSB (w : World) (X : List (List UInt8) × Bool) (e : Ending) (w' : World) : Prop := ∃ A c, e = .returned (.tuple #[.slice A X.1.length c, .bool X.2]) ∧ OwnS w' w.heap.size A c (X.1.map bs) ∧ Below w.heap.size w w'
theorem ownS_nil (w : World) (B : Nat) : OwnS w B none 0 [] := World.ownsRow_nil w B _ _
theorem ownS_mono {w : World} {B B' c : Nat} {A : Option Addr} {xs : List ByteArray} (h : OwnS w B A c xs) (hB : B' ≤ B) : OwnS w B' A c xs := by
  obtain ⟨h1, h2⟩ := h
  refine ⟨h1, ?_⟩
  rcases h2 with h2 | ⟨g, cap, cur, hv, hg, r⟩
  · exact .inl h2
  · exact .inr ⟨g, cap, cur, hv, Nat.le_trans hB hg, r⟩
theorem ownS_grown {w w' : World} {B c : Nat} {A : Option Addr} {xs : List ByteArray} {row : Option Nat} (h : OwnS w B A c xs) (hg : w.grownBy w' row) (hr : ∀ a, A = some a → some a.block ≠ row) : OwnS w' B A c xs := by
  obtain ⟨h1, h2⟩ := h
  refine ⟨h1, ?_⟩
  rcases h2 with h2 | ⟨g, cap, cur, hv, hgg, hh, r⟩
  · exact .inl h2
  · have hlt := (Array.getElem?_eq_some_iff.1 hh).1
    injection hv with e1 e2 e3
    exact .inr ⟨g, cap, cur, by rw [e1, e2, e3], hgg, (hg.block g hlt (hr _ e1)).trans hh, r⟩
theorem scriptB_yes {l : List UInt8} (h : (spl 10 l).length ≤ 40) : scriptB l = (ansB (spl 10 l), true) := by unfold scriptB; rw [if_pos h]
theorem scriptB_no {l : List UInt8} (h : ¬ (spl 10 l).length ≤ 40) : scriptB l = ([], false) := by unfold scriptB; rw [if_neg h]
set_option maxRecDepth 100000 in
set_option maxHeartbeats 4000000 in
theorem implRun_any (s : ByteArray) (w : World) (hs : s.size ≤ 1048576) : Calls Tryz.prog 19 #[.string s] w (RetSB w (scriptB s.data.toList)) := by
  have hl := sizeL s
  have hsp := spl_len 10 s.data.toList
  have HC := Lib.hid (fun W => split_any s 10 W (by omega))
  have HM : Hid (∀ p ∈ spl 10 s.data.toList, p.length ≤ 4000000000) := fun p hp => by have := (spl_mem hp).2; omega
  have HY := Lib.hid (fun h => scriptB_yes (l := s.data.toList) h)
  have HNo := Lib.hid (fun h => scriptB_no (l := s.data.toList) h)
  obtain ⟨R, hR⟩ : ∃ R, R = scriptB s.data.toList := ⟨_, rfl⟩
  obtain ⟨ps, hps⟩ : ∃ ps, ps = spl 10 s.data.toList := ⟨_, rfl⟩
  rw [← hR] at HY HNo ⊢
  rw [← hps] at HY HNo HM HC hsp
  clear hR hps
  have hn1 : ps.length ≤ 1048577 := by omega
  have hn2 : 1 ≤ ps.length := hsp.2
  have HN : Hid ((ps.map bs).length = ps.length) := by show _ = _; rw [List.length_map]
  clear hsp hl
  go_enter Tryz.func19, Tryz.ntmps19
  go_wp2_with fail
  (with_reducible refine (HC.out _).mono ?_)
  rintro e w1 ⟨Ap, cp, rfl, Op, h1⟩
  have hn3 := HN.out
  rw [hn3]
  obtain ⟨gp, rfl, hgl, _⟩ := ownS_head Op (by rw [HN.out]; omega)
  have OP := Lib.hid Op
  have Hb := Lib.hid h1
  have zp : w.heap.size ≤ gp := (ownS_lt Op _ rfl).1
  have z1 : w.heap.size ≤ w1.heap.size := h1.size
  clear Op h1 hn3 HC
  by_cases h40 : ps.length ≤ 40
  rotate_left
  · have HE := Lib.hid (HNo.out h40)
    have hlt : 40 < ps.length := by omega
    clear h40
    go_wp2
    go_ret2
    rw [HE.out]
    exact ⟨none, 0, rfl, ownS_nil _ _, Hb.out⟩
  have HE := Lib.hid (HY.out h40)
  have hlt : ¬ (40 < ps.length) := by omega
  go_wp2_with fail
  refine (implNewBench_any _).mono ?_; rintro e w2 ⟨A1, c1, A2, c2, A3, c3, A4, c4, A5, c5, rfl, O1, O2, O3, O4, O5, _, _, _, _, _, _, _, _, _, _, h⟩
  replace OP := Lib.hid (ownS_past OP.out h)
  replace Hb := Lib.hid (thenB Hb.out h)
  have hg2 : gp < w2.heap.size := Nat.lt_of_lt_of_le hgl h.size
  have z2 : w1.heap.size ≤ w2.heap.size := h.size
  clear h hgl
  have bx : Below w2.heap.size w2 (w2.alloc (.cells #[.int .i64 newBe.levels, .int .i64 newBe.step, .slice A1 newBe.coefs.length c1, .slice A2 newBe.memory.length c2, .slice A3 newBe.input.length c3, .slice A4 newBe.output.length c4, .slice A5 newBe.errors.length c5] 33)) := (Below.refl _ _).alloc (Nat.le_refl _) _
  have BB := Blk.new w2 33 #[.int .i64 newBe.levels, .int .i64 newBe.step, .slice A1 newBe.coefs.length c1, .slice A2 newBe.memory.length c2, .slice A3 newBe.input.length c3, .slice A4 newBe.output.length c4, .slice A5 newBe.errors.length c5]
  replace OP := Lib.hid (ownS_past OP.out bx)
  replace Hb := Lib.hid (thenB Hb.out bx)
  replace O1 := own_past O1 bx
  replace O2 := own_past O2 bx
  replace O3 := own_past O3 bx
  replace O4 := own_past O4 bx
  replace O5 := own_past O5 bx
  have zz : (w2.alloc (.cells #[.int .i64 newBe.levels, .int .i64 newBe.step, .slice A1 newBe.coefs.length c1, .slice A2 newBe.memory.length c2, .slice A3 newBe.input.length c3, .slice A4 newBe.output.length c4, .slice A5 newBe.errors.length c5] 33)).heap.size = w2.heap.size + 1 := World.size_alloc _ _
  clear bx
  go_upto_region 5 with fail
  obtain ⟨w3, hw⟩ : ∃ V, V = (w2.alloc (.cells #[.int .i64 newBe.levels, .int .i64 newBe.step, .slice A1 newBe.coefs.length c1, .slice A2 newBe.memory.length c2, .slice A3 newBe.input.length c3, .slice A4 newBe.output.length c4, .slice A5 newBe.errors.length c5] 33)) := ⟨_, rfl⟩
  rw [← hw] at BB OP Hb zz O1 O2 O3 O4 O5 ⊢
  clear hw
  obtain ⟨gb, hgb⟩ : ∃ g, g = w2.heap.size := ⟨_, rfl⟩
  rw [← hgb] at BB hg2 z2 zz ⊢
  have Oq := ownS_empty w3 w3.heap.size (Nat.le_refl _)
  have bx : Below w3.heap.size w3 (w3.alloc (.cells #[] 9)) := (Below.refl _ _).alloc (Nat.le_refl _) _
  have OQ := Lib.hid Oq
  replace OP := Lib.hid (ownS_past OP.out bx)
  replace Hb := Lib.hid (thenB Hb.out bx)
  have HBB := Lib.hid (BB.past bx)
  have R1 := Lib.hid (own_rd (own_past O1 bx))
  have R2 := Lib.hid (own_rd (own_past O2 bx))
  have R3 := Lib.hid (own_rd (own_past O3 bx))
  have R4 := Lib.hid (own_rd (own_past O4 bx))
  have R5 := Lib.hid (own_rd (own_past O5 bx))
  have z3 : w3.heap.size ≤ (w3.alloc (.cells #[] 9)).heap.size := bx.size
  have HGP : Hid (gp < w3.heap.size ∧ gb < w3.heap.size ∧ w.heap.size ≤ gb ∧ gp ≠ gb) := ⟨by omega, by omega, by omega, by omega⟩
  clear bx Oq BB hgb hg2 z2 zz O1 O2 O3 O4 O5
  go_wp2_with fail
  go_loopw [6, 20] (fun q i wr => ∃ (k : Nat) (Aq : Option Addr) (cq : Nat) (A1 : Option Addr) (c1 : Nat) (A2 : Option Addr) (c2 : Nat) (A3 : Option Addr) (c3 : Nat) (A4 : Option Addr) (c4 : Nat) (A5 : Option Addr) (c5 : Nat), k ≤ ps.length ∧ w3.heap.size ≤ wr.heap.size ∧ i = .int .i64 k ∧ q = .slice Aq k cq ∧ Hid (OwnS wr w3.heap.size Aq cq (((ansB ps).take k).map bs)) ∧ Hid (OwnS wr w.heap.size (some ⟨gp, 0, none⟩) cp (ps.map bs)) ∧ Hid (Blk wr gb 33 #[.int .i64 (stB ps k).levels, .int .i64 (stB ps k).step, .slice A1 (stB ps k).coefs.length c1, .slice A2 (stB ps k).memory.length c2, .slice A3 (stB ps k).input.length c3, .slice A4 (stB ps k).output.length c4, .slice A5 (stB ps k).errors.length c5]) ∧ Hid (Rd wr wr.heap.size A1 (stB ps k).coefs) ∧ Hid (Rd wr wr.heap.size A2 (stB ps k).memory) ∧ Hid (Rd wr wr.heap.size A3 (stB ps k).input) ∧ Hid (Rd wr wr.heap.size A4 (stB ps k).output) ∧ Hid (Rd wr wr.heap.size A5 (stB ps k).errors) ∧ Hid (Below w.heap.size w wr)) (fun _ i _ => ps.length - (intOf i).toNat)
  case atStart => exact ⟨0, _, 0, A1, c1, A2, c2, A3, c3, A4, c4, A5, c5, by omega, z3, rfl, rfl, OQ.out, OP.out, HBB.out, R1.out, R2.out, R3.out, R4.out, R5.out, Hb.out⟩
  case round =>
    clear OQ OP HBB Hb z3 R1 R2 R3 R4 R5
    obtain ⟨k, Aq, cq, B1, d1, B2, d2, B3, d3, B4, d4, B5, d5, hk, zr, rfl, rfl, OQ, OP, HBB, R1, R2, R3, R4, R5, Hb⟩ := hrel
    by_cases hlk : k < ps.length
    · have hc1 := ownS_cell OP.out hlk
      have hpl := HM.out _ (List.getElem_mem hlk)
      have hok := stB_ok ps k
      have hlen := ok_lens hok
      have HS : Hid (stB ps (k + 1) = (exec (stB ps k) ps[k]).1) := by show _ = (exec (stB ps k) ps[k]).1; rw [stB, List.getD_eq_getElem?_getD, List.getElem?_eq_getElem hlk]; rfl
      have HA : Hid (anB ps k = (exec (stB ps k) ps[k]).2) := by show _ = _; unfold anB; rw [List.getD_eq_getElem?_getD, List.getElem?_eq_getElem hlk]; rfl
      have HT := Lib.hid (ansB_take hlk)
      have HLt : Hid ((((ansB ps).take k).map bs).length = k) := by show _ = _; rw [List.length_map, List.length_take, ansB_len]; omega
      obtain ⟨X, hX⟩ : ∃ X, X = stB ps k := ⟨_, rfl⟩
      obtain ⟨ln, hln⟩ : ∃ l, l = ps[k] := ⟨_, rfl⟩
      rw [← hX] at HBB R1 R2 R3 R4 R5 HS HA hlen
      rw [← hln] at hc1 hpl HS HA
      have hcall := implExec_any X.levels X.step B1 B2 B3 B4 B5 d1 d2 d3 d4 d5 X.coefs X.memory X.input X.output X.errors (bs ln) wr R1.out R2.out R3.out R4.out R5.out (by omega) (by omega) (by omega) (by omega) (by omega) (by rw [bs_size]; exact hpl)
      have eb : (bs ln).data.toList = ln := by simp [bs]
      have eX : (⟨X.levels, X.step, X.coefs, X.memory, X.input, X.output, X.errors⟩ : Be) = X := rfl
      rw [eb, eX] at hcall
      obtain ⟨Y, hY⟩ : ∃ Y, Y = exec X ln := ⟨_, rfl⟩
      rw [← hY] at hcall HS HA
      have HC := Lib.hid hcall
      clear hcall eb eX hX hln hY hok hlen hpl
      have q0 := HBB.out.cell 0; have q1 := HBB.out.cell 1; have q2 := HBB.out.cell 2; have q3 := HBB.out.cell 3; have q4 := HBB.out.cell 4; have q5 := HBB.out.cell 5; have q6 := HBB.out.cell 6; simp at q0 q1 q2 q3 q4 q5 q6
      go_wp2_with fail
      refine HC.out.mono ?_; rintro e w4 ⟨A1, c1, A2, c2, A3, c3, A4, c4, A5, c5, rfl, O1, O2, O3, O4, O5, _, _, _, _, _, _, _, _, _, _, h⟩
      replace OP := Lib.hid (ownS_past OP.out h)
      replace Hb := Lib.hid (thenB Hb.out h)
      replace HBB := Lib.hid (HBB.out.past h)
      have N1 : ∀ a, A1 = some a → wr.heap.size ≤ a.block := own_lo O1
      have N2 : ∀ a, A2 = some a → wr.heap.size ≤ a.block := own_lo O2
      have N3 : ∀ a, A3 = some a → wr.heap.size ≤ a.block := own_lo O3
      have N4 : ∀ a, A4 = some a → wr.heap.size ≤ a.block := own_lo O4
      have N5 : ∀ a, A5 = some a → wr.heap.size ≤ a.block := own_lo O5
      have UQ := (fun a e => (ownS_lt OQ.out a e).2 : Hi Aq wr.heap.size)
      have P1 : Hid (Apart A1 Aq) := apart_gt N1 UQ (Nat.le_refl _)
      have P2 : Hid (Apart A2 Aq) := apart_gt N2 UQ (Nat.le_refl _)
      have P3 : Hid (Apart A3 Aq) := apart_gt N3 UQ (Nat.le_refl _)
      have P4 : Hid (Apart A4 Aq) := apart_gt N4 UQ (Nat.le_refl _)
      have P5 : Hid (Apart A5 Aq) := apart_gt N5 UQ (Nat.le_refl _)
      replace OQ := Lib.hid (ownS_past OQ.out h)
      have zk : wr.heap.size ≤ w4.heap.size := h.size
      clear h HC q0 q1 q2 q3 q4 q5 q6 UQ hc1
      have bx : Below w4.heap.size w4 (w4.alloc (.cells #[.int .i64 Y.1.levels, .int .i64 Y.1.step, .slice A1 Y.1.coefs.length c1, .slice A2 Y.1.memory.length c2, .slice A3 Y.1.input.length c3, .slice A4 Y.1.output.length c4, .slice A5 Y.1.errors.length c5] 33)) := (Below.refl _ _).alloc (Nat.le_refl _) _
      have BN := Blk.new w4 33 #[.int .i64 Y.1.levels, .int .i64 Y.1.step, .slice A1 Y.1.coefs.length c1, .slice A2 Y.1.memory.length c2, .slice A3 Y.1.input.length c3, .slice A4 Y.1.output.length c4, .slice A5 Y.1.errors.length c5]
      replace OP := Lib.hid (ownS_past OP.out bx)
      replace OQ := Lib.hid (ownS_past OQ.out bx)
      replace Hb := Lib.hid (thenB Hb.out bx)
      replace HBB := Lib.hid (HBB.out.past bx)
      replace O1 := own_past O1 bx
      replace O2 := own_past O2 bx
      replace O3 := own_past O3 bx
      replace O4 := own_past O4 bx
      replace O5 := own_past O5 bx
      have zl : w4.heap.size ≤ (w4.alloc (.cells #[.int .i64 Y.1.levels, .int .i64 Y.1.step, .slice A1 Y.1.coefs.length c1, .slice A2 Y.1.memory.length c2, .slice A3 Y.1.input.length c3, .slice A4 Y.1.output.length c4, .slice A5 Y.1.errors.length c5] 33)).heap.size := bx.size
      clear bx
      go_upto_region 10 with fail
      obtain ⟨w5, hw⟩ : ∃ V, V = (w4.alloc (.cells #[.int .i64 Y.1.levels, .int .i64 Y.1.step, .slice A1 Y.1.coefs.length c1, .slice A2 Y.1.memory.length c2, .slice A3 Y.1.input.length c3, .slice A4 Y.1.output.length c4, .slice A5 Y.1.errors.length c5] 33)) := ⟨_, rfl⟩
      rw [← hw] at OP OQ Hb HBB BN zl O1 O2 O3 O4 O5 ⊢
      clear hw
      obtain ⟨gn, hgn⟩ : ∃ g, g = w4.heap.size := ⟨_, rfl⟩
      rw [← hgn] at BN ⊢
      have hng : gn ≠ gb := by have := HGP.out; omega
      clear hgn
      have q0 := BN.cell 0; have p0 := HBB.out.cell 0; have f0 := HBB.out.frozen 0; have q1 := BN.cell 1; have p1 := HBB.out.cell 1; have f1 := HBB.out.frozen 1; have q2 := BN.cell 2; have p2 := HBB.out.cell 2; have f2 := HBB.out.frozen 2; have q3 := BN.cell 3; have p3 := HBB.out.cell 3; have f3 := HBB.out.frozen 3; have q4 := BN.cell 4; have p4 := HBB.out.cell 4; have f4 := HBB.out.frozen 4; have q5 := BN.cell 5; have p5 := HBB.out.cell 5; have f5 := HBB.out.frozen 5; have q6 := BN.cell 6; have p6 := HBB.out.cell 6; have f6 := HBB.out.frozen 6; simp at q0 p0 q1 p1 q2 p2 q3 p3 q4 p4 q5 p5 q6 p6
      go_upto_region 11 with fail
      have T := (turn_set (turn_set (turn_set (turn_set (turn_set (turn_set (turn_set (turn_refl w5 gb) (p := ⟨gb, 0, none⟩) rfl (.int .i64 Y.1.levels)) (p := ⟨gb, 1, none⟩) rfl (.int .i64 Y.1.step)) (p := ⟨gb, 2, none⟩) rfl (.slice A1 Y.1.coefs.length c1)) (p := ⟨gb, 3, none⟩) rfl (.slice A2 Y.1.memory.length c2)) (p := ⟨gb, 4, none⟩) rfl (.slice A3 Y.1.input.length c3)) (p := ⟨gb, 5, none⟩) rfl (.slice A4 Y.1.output.length c4)) (p := ⟨gb, 6, none⟩) rfl (.slice A5 Y.1.errors.length c5))
      have HB2 : Hid (Blk (((((((w5.setCell ⟨gb, 0, none⟩ (.int .i64 Y.1.levels)).setCell ⟨gb, 1, none⟩ (.int .i64 Y.1.step)).setCell ⟨gb, 2, none⟩ (.slice A1 Y.1.coefs.length c1)).setCell ⟨gb, 3, none⟩ (.slice A2 Y.1.memory.length c2)).setCell ⟨gb, 4, none⟩ (.slice A3 Y.1.input.length c3)).setCell ⟨gb, 5, none⟩ (.slice A4 Y.1.output.length c4)).setCell ⟨gb, 6, none⟩ (.slice A5 Y.1.errors.length c5)) gb 33 #[.int .i64 Y.1.levels, .int .i64 Y.1.step, .slice A1 Y.1.coefs.length c1, .slice A2 Y.1.memory.length c2, .slice A3 Y.1.input.length c3, .slice A4 Y.1.output.length c4, .slice A5 Y.1.errors.length c5]) := (((((((HBB.out.set_ 0 (.int .i64 Y.1.levels)).set_ 1 (.int .i64 Y.1.step)).set_ 2 (.slice A1 Y.1.coefs.length c1)).set_ 3 (.slice A2 Y.1.memory.length c2)).set_ 4 (.slice A3 Y.1.input.length c3)).set_ 5 (.slice A4 Y.1.output.length c4)).set_ 6 (.slice A5 Y.1.errors.length c5))
      replace Hb := Lib.hid (((((((Hb.out.setCell (p := ⟨gb, 0, none⟩) HGP.out.2.2.1 (.int .i64 Y.1.levels)).setCell (p := ⟨gb, 1, none⟩) HGP.out.2.2.1 (.int .i64 Y.1.step)).setCell (p := ⟨gb, 2, none⟩) HGP.out.2.2.1 (.slice A1 Y.1.coefs.length c1)).setCell (p := ⟨gb, 3, none⟩) HGP.out.2.2.1 (.slice A2 Y.1.memory.length c2)).setCell (p := ⟨gb, 4, none⟩) HGP.out.2.2.1 (.slice A3 Y.1.input.length c3)).setCell (p := ⟨gb, 5, none⟩) HGP.out.2.2.1 (.slice A4 Y.1.output.length c4)).setCell (p := ⟨gb, 6, none⟩) HGP.out.2.2.1 (.slice A5 Y.1.errors.length c5))
      replace OP := Lib.hid (ownS_grown OP.out T (fun a e e' => by have h1 := Option.some.inj e; have h2 := Option.some.inj e'; subst h1; exact HGP.out.2.2.2 h2))
      replace OQ := Lib.hid (ownS_grown OQ.out T (fun a e e' => by have h1 := ownS_lo OQ.out a e; have h2 := Option.some.inj e'; have := HGP.out; omega))
      replace O1 := own_grown O1 T (fun a e e' => by have h1 := N1 a e; have h2 := Option.some.inj e'; have := HGP.out; omega)
      replace O2 := own_grown O2 T (fun a e e' => by have h1 := N2 a e; have h2 := Option.some.inj e'; have := HGP.out; omega)
      replace O3 := own_grown O3 T (fun a e e' => by have h1 := N3 a e; have h2 := Option.some.inj e'; have := HGP.out; omega)
      replace O4 := own_grown O4 T (fun a e e' => by have h1 := N4 a e; have h2 := Option.some.inj e'; have := HGP.out; omega)
      replace O5 := own_grown O5 T (fun a e e' => by have h1 := N5 a e; have h2 := Option.some.inj e'; have := HGP.out; omega)
      have zm := T.size
      clear T HBB BN hng q0 p0 f0 q1 p1 f1 q2 p2 f2 q3 p3 f3 q4 p4 f4 q5 p5 f5 q6 p6 f6
      obtain ⟨w6, hw⟩ : ∃ V, V = (((((((w5.setCell ⟨gb, 0, none⟩ (.int .i64 Y.1.levels)).setCell ⟨gb, 1, none⟩ (.int .i64 Y.1.step)).setCell ⟨gb, 2, none⟩ (.slice A1 Y.1.coefs.length c1)).setCell ⟨gb, 3, none⟩ (.slice A2 Y.1.memory.length c2)).setCell ⟨gb, 4, none⟩ (.slice A3 Y.1.input.length c3)).setCell ⟨gb, 5, none⟩ (.slice A4 Y.1.output.length c4)).setCell ⟨gb, 6, none⟩ (.slice A5 Y.1.errors.length c5)) := ⟨_, rfl⟩
      rw [← hw] at HB2 Hb OP OQ zm O1 O2 O3 O4 O5 ⊢
      clear hw
      have HO1 := Lib.hid O1
      have HO2 := Lib.hid O2
      have HO3 := Lib.hid O3
      have HO4 := Lib.hid O4
      have HO5 := Lib.hid O5
      have z6 : w3.heap.size ≤ w6.heap.size := by omega
      clear O1 O2 O3 O4 O5
      go_wp2_with (at_builtin; refine appS_new rfl (.tmp 31) (.tmp 33) rfl w3.heap.size Aq cq k (((ansB ps).take k).map bs) _ HLt.out rfl OQ.out rfl (by omega) z6 ?_)
      intro A9 c9 w7 hO7 hw7
      have LQ := ownS_lo OQ.out
      have S1 := Lib.hid (own_rd (own_wrote HO1.out hw7 P1.out))
      have S2 := Lib.hid (own_rd (own_wrote HO2.out hw7 P2.out))
      have S3 := Lib.hid (own_rd (own_wrote HO3.out hw7 P3.out))
      have S4 := Lib.hid (own_rd (own_wrote HO4.out hw7 P4.out))
      have S5 := Lib.hid (own_rd (own_wrote HO5.out hw7 P5.out))
      have OP7 := Lib.hid (ownS_wrote OP.out hw7 (apart_lt (n := w3.heap.size) (fun a e => by have h1 := Option.some.inj e; subst h1; exact HGP.out.1) LQ (Nat.le_refl _)))
      have HB7 := Lib.hid (blk_wrote HB2.out hw7 LQ HGP.out.2.1)
      have Hb7 := Lib.hid (Hb.out.trans (below_wrote hw7 Hb.out.size (lo_le LQ (by have := HGP.out; omega))))
      have z7 : w3.heap.size ≤ w7.heap.size := Nat.le_trans z6 hw7.size
      have HO7 := Lib.hid hO7
      clear hO7 hw7 LQ OQ OP HB2 Hb HO1 P1 HO2 P2 HO3 P3 HO4 P4 HO5 P5
      go_wp2
      go_roundw
      case rel =>
        have e1 : ((ansB ps).take (k + 1)).map bs = ((ansB ps).take k).map bs ++ [bs Y.2] := by rw [HT.out, List.map_append, HA.out]; rfl
        refine ⟨k + 1, A9, c9, A1, c1, A2, c2, A3, c3, A4, c4, A5, c5, by omega, z7, by go_num, rfl, by (show OwnS _ _ _ _ _; rw [e1]; first | exact HO7.out | (rw [List.map_take]; exact HO7.out)), OP7.out, ?_, ?_, ?_, ?_, ?_, ?_, Hb7.out⟩
        · rw [HS.out]; exact HB7.out
        · rw [HS.out]; exact S1.out
        · rw [HS.out]; exact S2.out
        · rw [HS.out]; exact S3.out
        · rw [HS.out]; exact S4.out
        · rw [HS.out]; exact S5.out
      case measure => simp [intOf]; omega
    · obtain rfl : k = ps.length := by omega
      have ho := OQ.out
      rw [List.take_of_length_le (by rw [ansB_len]; exact Nat.le_refl _)] at ho
      have HO := Lib.hid (ownS_mono ho (show w.heap.size ≤ w3.heap.size by have := HGP.out; omega))
      clear ho OQ
      go_wp2
      go_ret2
      rw [HE.out]
      exact ⟨Aq, cq, by rw [ansB_len]; rfl, HO.out, Hb.out⟩
set_option maxRecDepth 100000 in
set_option maxHeartbeats 4000000 in
theorem specRun_any (s : ByteArray) (w : World) (hs : s.size ≤ 1048576) : Calls Tryz.prog 26 #[.string s] w (RetSB w (scriptB s.data.toList)) := by
  have hl := sizeL s
  have hsp := spl_len 10 s.data.toList
  have HC : Hid (∀ W, Calls Tryz.prog 69 #[.string s, .int .u8 10] W (RetSS W ((spl 10 s.data.toList).map bs))) := fun W => l7Split_any s 10 W (by omega)
  have HM : Hid (∀ p ∈ spl 10 s.data.toList, p.length ≤ 4000000000) := fun p hp => by have := (spl_mem hp).2; omega
  have HY := Lib.hid (fun h => scriptB_yes (l := s.data.toList) h)
  have HNo := Lib.hid (fun h => scriptB_no (l := s.data.toList) h)
  obtain ⟨R, hR⟩ : ∃ R, R = scriptB s.data.toList := ⟨_, rfl⟩
  obtain ⟨ps, hps⟩ : ∃ ps, ps = spl 10 s.data.toList := ⟨_, rfl⟩
  rw [← hR] at HY HNo ⊢
  rw [← hps] at HY HNo HM HC hsp
  clear hR hps
  have hn1 : ps.length ≤ 1048577 := by omega
  have hn2 : 1 ≤ ps.length := hsp.2
  have HN : Hid ((ps.map bs).length = ps.length) := by show _ = _; rw [List.length_map]
  clear hsp hl
  go_enter Tryz.func26, Tryz.ntmps26
  go_wp2_with fail
  (with_reducible refine (HC.out _).mono ?_)
  rintro e w1 ⟨Ap, cp, rfl, Op, h1⟩
  have hn3 := HN.out
  rw [hn3]
  obtain ⟨gp, rfl, hgl, _⟩ := ownS_head Op (by rw [HN.out]; omega)
  have OP := Lib.hid Op
  have Hb := Lib.hid h1
  have zp : w.heap.size ≤ gp := (ownS_lt Op _ rfl).1
  have z1 : w.heap.size ≤ w1.heap.size := h1.size
  clear Op h1 hn3 HC
  by_cases h40 : ps.length ≤ 40
  rotate_left
  · have HE := Lib.hid (HNo.out h40)
    have hlt : 40 < ps.length := by omega
    clear h40
    go_wp2
    go_ret2
    rw [HE.out]
    exact ⟨none, 0, rfl, ownS_nil _ _, Hb.out⟩
  have HE := Lib.hid (HY.out h40)
  have hlt : ¬ (40 < ps.length) := by omega
  go_wp2_with fail
  refine (specNewBench_any _).mono ?_; rintro e w2 ⟨A1, c1, A2, c2, A3, c3, A4, c4, A5, c5, rfl, O1, O2, O3, O4, O5, _, _, _, _, _, _, _, _, _, _, h⟩
  replace OP := Lib.hid (ownS_past OP.out h)
  replace Hb := Lib.hid (thenB Hb.out h)
  have hg2 : gp < w2.heap.size := Nat.lt_of_lt_of_le hgl h.size
  have z2 : w1.heap.size ≤ w2.heap.size := h.size
  clear h hgl
  have bx : Below w2.heap.size w2 (w2.alloc (.cells #[.int .i64 newBe.levels, .int .i64 newBe.step, .slice A1 newBe.coefs.length c1, .slice A2 newBe.memory.length c2, .slice A3 newBe.input.length c3, .slice A4 newBe.output.length c4, .slice A5 newBe.errors.length c5] 33)) := (Below.refl _ _).alloc (Nat.le_refl _) _
  have BB := Blk.new w2 33 #[.int .i64 newBe.levels, .int .i64 newBe.step, .slice A1 newBe.coefs.length c1, .slice A2 newBe.memory.length c2, .slice A3 newBe.input.length c3, .slice A4 newBe.output.length c4, .slice A5 newBe.errors.length c5]
  replace OP := Lib.hid (ownS_past OP.out bx)
  replace Hb := Lib.hid (thenB Hb.out bx)
  replace O1 := own_past O1 bx
  replace O2 := own_past O2 bx
  replace O3 := own_past O3 bx
  replace O4 := own_past O4 bx
  replace O5 := own_past O5 bx
  have zz : (w2.alloc (.cells #[.int .i64 newBe.levels, .int .i64 newBe.step, .slice A1 newBe.coefs.length c1, .slice A2 newBe.memory.length c2, .slice A3 newBe.input.length c3, .slice A4 newBe.output.length c4, .slice A5 newBe.errors.length c5] 33)).heap.size = w2.heap.size + 1 := World.size_alloc _ _
  clear bx
  go_upto_region 5 with fail
  obtain ⟨w3, hw⟩ : ∃ V, V = (w2.alloc (.cells #[.int .i64 newBe.levels, .int .i64 newBe.step, .slice A1 newBe.coefs.length c1, .slice A2 newBe.memory.length c2, .slice A3 newBe.input.length c3, .slice A4 newBe.output.length c4, .slice A5 newBe.errors.length c5] 33)) := ⟨_, rfl⟩
  rw [← hw] at BB OP Hb zz O1 O2 O3 O4 O5 ⊢
  clear hw
  obtain ⟨gb, hgb⟩ : ∃ g, g = w2.heap.size := ⟨_, rfl⟩
  rw [← hgb] at BB hg2 z2 zz ⊢
  have Oq := ownS_empty w3 w3.heap.size (Nat.le_refl _)
  have bx : Below w3.heap.size w3 (w3.alloc (.cells #[] 9)) := (Below.refl _ _).alloc (Nat.le_refl _) _
  have OQ := Lib.hid Oq
  replace OP := Lib.hid (ownS_past OP.out bx)
  replace Hb := Lib.hid (thenB Hb.out bx)
  have HBB := Lib.hid (BB.past bx)
  have R1 := Lib.hid (own_rd (own_past O1 bx))
  have R2 := Lib.hid (own_rd (own_past O2 bx))
  have R3 := Lib.hid (own_rd (own_past O3 bx))
  have R4 := Lib.hid (own_rd (own_past O4 bx))
  have R5 := Lib.hid (own_rd (own_past O5 bx))
  have z3 : w3.heap.size ≤ (w3.alloc (.cells #[] 9)).heap.size := bx.size
  have HGP : Hid (gp < w3.heap.size ∧ gb < w3.heap.size ∧ w.heap.size ≤ gb ∧ gp ≠ gb) := ⟨by omega, by omega, by omega, by omega⟩
  clear bx Oq BB hgb hg2 z2 zz O1 O2 O3 O4 O5
  go_wp2_with fail
  go_loopw [6, 20] (fun q i wr => ∃ (k : Nat) (Aq : Option Addr) (cq : Nat) (A1 : Option Addr) (c1 : Nat) (A2 : Option Addr) (c2 : Nat) (A3 : Option Addr) (c3 : Nat) (A4 : Option Addr) (c4 : Nat) (A5 : Option Addr) (c5 : Nat), k ≤ ps.length ∧ w3.heap.size ≤ wr.heap.size ∧ i = .int .i64 k ∧ q = .slice Aq k cq ∧ Hid (OwnS wr w3.heap.size Aq cq (((ansB ps).take k).map bs)) ∧ Hid (OwnS wr w.heap.size (some ⟨gp, 0, none⟩) cp (ps.map bs)) ∧ Hid (Blk wr gb 33 #[.int .i64 (stB ps k).levels, .int .i64 (stB ps k).step, .slice A1 (stB ps k).coefs.length c1, .slice A2 (stB ps k).memory.length c2, .slice A3 (stB ps k).input.length c3, .slice A4 (stB ps k).output.length c4, .slice A5 (stB ps k).errors.length c5]) ∧ Hid (Rd wr wr.heap.size A1 (stB ps k).coefs) ∧ Hid (Rd wr wr.heap.size A2 (stB ps k).memory) ∧ Hid (Rd wr wr.heap.size A3 (stB ps k).input) ∧ Hid (Rd wr wr.heap.size A4 (stB ps k).output) ∧ Hid (Rd wr wr.heap.size A5 (stB ps k).errors) ∧ Hid (Below w.heap.size w wr)) (fun _ i _ => ps.length - (intOf i).toNat)
  case atStart => exact ⟨0, _, 0, A1, c1, A2, c2, A3, c3, A4, c4, A5, c5, by omega, z3, rfl, rfl, OQ.out, OP.out, HBB.out, R1.out, R2.out, R3.out, R4.out, R5.out, Hb.out⟩
  case round =>
    clear OQ OP HBB Hb z3 R1 R2 R3 R4 R5
    obtain ⟨k, Aq, cq, B1, d1, B2, d2, B3, d3, B4, d4, B5, d5, hk, zr, rfl, rfl, OQ, OP, HBB, R1, R2, R3, R4, R5, Hb⟩ := hrel
    by_cases hlk : k < ps.length
    · have hc1 := ownS_cell OP.out hlk
      have hpl := HM.out _ (List.getElem_mem hlk)
      have hok := stB_ok ps k
      have hlen := ok_lens hok
      have HS : Hid (stB ps (k + 1) = (exec (stB ps k) ps[k]).1) := by show _ = (exec (stB ps k) ps[k]).1; rw [stB, List.getD_eq_getElem?_getD, List.getElem?_eq_getElem hlk]; rfl
      have HA : Hid (anB ps k = (exec (stB ps k) ps[k]).2) := by show _ = _; unfold anB; rw [List.getD_eq_getElem?_getD, List.getElem?_eq_getElem hlk]; rfl
      have HT := Lib.hid (ansB_take hlk)
      have HLt : Hid ((((ansB ps).take k).map bs).length = k) := by show _ = _; rw [List.length_map, List.length_take, ansB_len]; omega
      obtain ⟨X, hX⟩ : ∃ X, X = stB ps k := ⟨_, rfl⟩
      obtain ⟨ln, hln⟩ : ∃ l, l = ps[k] := ⟨_, rfl⟩
      rw [← hX] at HBB R1 R2 R3 R4 R5 HS HA hlen
      rw [← hln] at hc1 hpl HS HA
      have hcall := specExec_any X.levels X.step B1 B2 B3 B4 B5 d1 d2 d3 d4 d5 X.coefs X.memory X.input X.output X.errors (bs ln) wr R1.out R2.out R3.out R4.out R5.out (by omega) (by omega) (by omega) (by omega) (by omega) (by rw [bs_size]; exact hpl)
      have eb : (bs ln).data.toList = ln := by simp [bs]
      have eX : (⟨X.levels, X.step, X.coefs, X.memory, X.input, X.output, X.errors⟩ : Be) = X := rfl
      rw [eb, eX] at hcall
      obtain ⟨Y, hY⟩ : ∃ Y, Y = exec X ln := ⟨_, rfl⟩
      rw [← hY] at hcall HS HA
      have HC := Lib.hid hcall
      clear hcall eb eX hX hln hY hok hlen hpl
      have q0 := HBB.out.cell 0; have q1 := HBB.out.cell 1; have q2 := HBB.out.cell 2; have q3 := HBB.out.cell 3; have q4 := HBB.out.cell 4; have q5 := HBB.out.cell 5; have q6 := HBB.out.cell 6; simp at q0 q1 q2 q3 q4 q5 q6
      go_wp2_with fail
      refine HC.out.mono ?_; rintro e w4 ⟨A1, c1, A2, c2, A3, c3, A4, c4, A5, c5, rfl, O1, O2, O3, O4, O5, _, _, _, _, _, _, _, _, _, _, h⟩
      replace OP := Lib.hid (ownS_past OP.out h)
      replace Hb := Lib.hid (thenB Hb.out h)
      replace HBB := Lib.hid (HBB.out.past h)
      have N1 : ∀ a, A1 = some a → wr.heap.size ≤ a.block := own_lo O1
      have N2 : ∀ a, A2 = some a → wr.heap.size ≤ a.block := own_lo O2
      have N3 : ∀ a, A3 = some a → wr.heap.size ≤ a.block := own_lo O3
      have N4 : ∀ a, A4 = some a → wr.heap.size ≤ a.block := own_lo O4
      have N5 : ∀ a, A5 = some a → wr.heap.size ≤ a.block := own_lo O5
      have UQ := (fun a e => (ownS_lt OQ.out a e).2 : Hi Aq wr.heap.size)
      have P1 : Hid (Apart A1 Aq) := apart_gt N1 UQ (Nat.le_refl _)
      have P2 : Hid (Apart A2 Aq) := apart_gt N2 UQ (Nat.le_refl _)
      have P3 : Hid (Apart A3 Aq) := apart_gt N3 UQ (Nat.le_refl _)
      have P4 : Hid (Apart A4 Aq) := apart_gt N4 UQ (Nat.le_refl _)
      have P5 : Hid (Apart A5 Aq) := apart_gt N5 UQ (Nat.le_refl _)
      replace OQ := Lib.hid (ownS_past OQ.out h)
      have zk : wr.heap.size ≤ w4.heap.size := h.size
      clear h HC q0 q1 q2 q3 q4 q5 q6 UQ hc1
      have bx : Below w4.heap.size w4 (w4.alloc (.cells #[.int .i64 Y.1.levels, .int .i64 Y.1.step, .slice A1 Y.1.coefs.length c1, .slice A2 Y.1.memory.length c2, .slice A3 Y.1.input.length c3, .slice A4 Y.1.output.length c4, .slice A5 Y.1.errors.length c5] 33)) := (Below.refl _ _).alloc (Nat.le_refl _) _
      have BN := Blk.new w4 33 #[.int .i64 Y.1.levels, .int .i64 Y.1.step, .slice A1 Y.1.coefs.length c1, .slice A2 Y.1.memory.length c2, .slice A3 Y.1.input.length c3, .slice A4 Y.1.output.length c4, .slice A5 Y.1.errors.length c5]
      replace OP := Lib.hid (ownS_past OP.out bx)
      replace OQ := Lib.hid (ownS_past OQ.out bx)
      replace Hb := Lib.hid (thenB Hb.out bx)
      replace HBB := Lib.hid (HBB.out.past bx)
      replace O1 := own_past O1 bx
      replace O2 := own_past O2 bx
      replace O3 := own_past O3 bx
      replace O4 := own_past O4 bx
      replace O5 := own_past O5 bx
      have zl : w4.heap.size ≤ (w4.alloc (.cells #[.int .i64 Y.1.levels, .int .i64 Y.1.step, .slice A1 Y.1.coefs.length c1, .slice A2 Y.1.memory.length c2, .slice A3 Y.1.input.length c3, .slice A4 Y.1.output.length c4, .slice A5 Y.1.errors.length c5] 33)).heap.size := bx.size
      clear bx
      go_upto_region 10 with fail
      obtain ⟨w5, hw⟩ : ∃ V, V = (w4.alloc (.cells #[.int .i64 Y.1.levels, .int .i64 Y.1.step, .slice A1 Y.1.coefs.length c1, .slice A2 Y.1.memory.length c2, .slice A3 Y.1.input.length c3, .slice A4 Y.1.output.length c4, .slice A5 Y.1.errors.length c5] 33)) := ⟨_, rfl⟩
      rw [← hw] at OP OQ Hb HBB BN zl O1 O2 O3 O4 O5 ⊢
      clear hw
      obtain ⟨gn, hgn⟩ : ∃ g, g = w4.heap.size := ⟨_, rfl⟩
      rw [← hgn] at BN ⊢
      have hng : gn ≠ gb := by have := HGP.out; omega
      clear hgn
      have q0 := BN.cell 0; have p0 := HBB.out.cell 0; have f0 := HBB.out.frozen 0; have q1 := BN.cell 1; have p1 := HBB.out.cell 1; have f1 := HBB.out.frozen 1; have q2 := BN.cell 2; have p2 := HBB.out.cell 2; have f2 := HBB.out.frozen 2; have q3 := BN.cell 3; have p3 := HBB.out.cell 3; have f3 := HBB.out.frozen 3; have q4 := BN.cell 4; have p4 := HBB.out.cell 4; have f4 := HBB.out.frozen 4; have q5 := BN.cell 5; have p5 := HBB.out.cell 5; have f5 := HBB.out.frozen 5; have q6 := BN.cell 6; have p6 := HBB.out.cell 6; have f6 := HBB.out.frozen 6; simp at q0 p0 q1 p1 q2 p2 q3 p3 q4 p4 q5 p5 q6 p6
      go_upto_region 11 with fail
      have T := (turn_set (turn_set (turn_set (turn_set (turn_set (turn_set (turn_set (turn_refl w5 gb) (p := ⟨gb, 0, none⟩) rfl (.int .i64 Y.1.levels)) (p := ⟨gb, 1, none⟩) rfl (.int .i64 Y.1.step)) (p := ⟨gb, 2, none⟩) rfl (.slice A1 Y.1.coefs.length c1)) (p := ⟨gb, 3, none⟩) rfl (.slice A2 Y.1.memory.length c2)) (p := ⟨gb, 4, none⟩) rfl (.slice A3 Y.1.input.length c3)) (p := ⟨gb, 5, none⟩) rfl (.slice A4 Y.1.output.length c4)) (p := ⟨gb, 6, none⟩) rfl (.slice A5 Y.1.errors.length c5))
      have HB2 : Hid (Blk (((((((w5.setCell ⟨gb, 0, none⟩ (.int .i64 Y.1.levels)).setCell ⟨gb, 1, none⟩ (.int .i64 Y.1.step)).setCell ⟨gb, 2, none⟩ (.slice A1 Y.1.coefs.length c1)).setCell ⟨gb, 3, none⟩ (.slice A2 Y.1.memory.length c2)).setCell ⟨gb, 4, none⟩ (.slice A3 Y.1.input.length c3)).setCell ⟨gb, 5, none⟩ (.slice A4 Y.1.output.length c4)).setCell ⟨gb, 6, none⟩ (.slice A5 Y.1.errors.length c5)) gb 33 #[.int .i64 Y.1.levels, .int .i64 Y.1.step, .slice A1 Y.1.coefs.length c1, .slice A2 Y.1.memory.length c2, .slice A3 Y.1.input.length c3, .slice A4 Y.1.output.length c4, .slice A5 Y.1.errors.length c5]) := (((((((HBB.out.set_ 0 (.int .i64 Y.1.levels)).set_ 1 (.int .i64 Y.1.step)).set_ 2 (.slice A1 Y.1.coefs.length c1)).set_ 3 (.slice A2 Y.1.memory.length c2)).set_ 4 (.slice A3 Y.1.input.length c3)).set_ 5 (.slice A4 Y.1.output.length c4)).set_ 6 (.slice A5 Y.1.errors.length c5))
      replace Hb := Lib.hid (((((((Hb.out.setCell (p := ⟨gb, 0, none⟩) HGP.out.2.2.1 (.int .i64 Y.1.levels)).setCell (p := ⟨gb, 1, none⟩) HGP.out.2.2.1 (.int .i64 Y.1.step)).setCell (p := ⟨gb, 2, none⟩) HGP.out.2.2.1 (.slice A1 Y.1.coefs.length c1)).setCell (p := ⟨gb, 3, none⟩) HGP.out.2.2.1 (.slice A2 Y.1.memory.length c2)).setCell (p := ⟨gb, 4, none⟩) HGP.out.2.2.1 (.slice A3 Y.1.input.length c3)).setCell (p := ⟨gb, 5, none⟩) HGP.out.2.2.1 (.slice A4 Y.1.output.length c4)).setCell (p := ⟨gb, 6, none⟩) HGP.out.2.2.1 (.slice A5 Y.1.errors.length c5))
      replace OP := Lib.hid (ownS_grown OP.out T (fun a e e' => by have h1 := Option.some.inj e; have h2 := Option.some.inj e'; subst h1; exact HGP.out.2.2.2 h2))
      replace OQ := Lib.hid (ownS_grown OQ.out T (fun a e e' => by have h1 := ownS_lo OQ.out a e; have h2 := Option.some.inj e'; have := HGP.out; omega))
      replace O1 := own_grown O1 T (fun a e e' => by have h1 := N1 a e; have h2 := Option.some.inj e'; have := HGP.out; omega)
      replace O2 := own_grown O2 T (fun a e e' => by have h1 := N2 a e; have h2 := Option.some.inj e'; have := HGP.out; omega)
      replace O3 := own_grown O3 T (fun a e e' => by have h1 := N3 a e; have h2 := Option.some.inj e'; have := HGP.out; omega)
      replace O4 := own_grown O4 T (fun a e e' => by have h1 := N4 a e; have h2 := Option.some.inj e'; have := HGP.out; omega)
      replace O5 := own_grown O5 T (fun a e e' => by have h1 := N5 a e; have h2 := Option.some.inj e'; have := HGP.out; omega)
      have zm := T.size
      clear T HBB BN hng q0 p0 f0 q1 p1 f1 q2 p2 f2 q3 p3 f3 q4 p4 f4 q5 p5 f5 q6 p6 f6
      obtain ⟨w6, hw⟩ : ∃ V, V = (((((((w5.setCell ⟨gb, 0, none⟩ (.int .i64 Y.1.levels)).setCell ⟨gb, 1, none⟩ (.int .i64 Y.1.step)).setCell ⟨gb, 2, none⟩ (.slice A1 Y.1.coefs.length c1)).setCell ⟨gb, 3, none⟩ (.slice A2 Y.1.memory.length c2)).setCell ⟨gb, 4, none⟩ (.slice A3 Y.1.input.length c3)).setCell ⟨gb, 5, none⟩ (.slice A4 Y.1.output.length c4)).setCell ⟨gb, 6, none⟩ (.slice A5 Y.1.errors.length c5)) := ⟨_, rfl⟩
      rw [← hw] at HB2 Hb OP OQ zm O1 O2 O3 O4 O5 ⊢
      clear hw
      have HO1 := Lib.hid O1
      have HO2 := Lib.hid O2
      have HO3 := Lib.hid O3
      have HO4 := Lib.hid O4
      have HO5 := Lib.hid O5
      have z6 : w3.heap.size ≤ w6.heap.size := by omega
      clear O1 O2 O3 O4 O5
      go_wp2_with (at_builtin; refine appS_new rfl (.tmp 31) (.tmp 33) rfl w3.heap.size Aq cq k (((ansB ps).take k).map bs) _ HLt.out rfl OQ.out rfl (by omega) z6 ?_)
      intro A9 c9 w7 hO7 hw7
      have LQ := ownS_lo OQ.out
      have S1 := Lib.hid (own_rd (own_wrote HO1.out hw7 P1.out))
      have S2 := Lib.hid (own_rd (own_wrote HO2.out hw7 P2.out))
      have S3 := Lib.hid (own_rd (own_wrote HO3.out hw7 P3.out))
      have S4 := Lib.hid (own_rd (own_wrote HO4.out hw7 P4.out))
      have S5 := Lib.hid (own_rd (own_wrote HO5.out hw7 P5.out))
      have OP7 := Lib.hid (ownS_wrote OP.out hw7 (apart_lt (n := w3.heap.size) (fun a e => by have h1 := Option.some.inj e; subst h1; exact HGP.out.1) LQ (Nat.le_refl _)))
      have HB7 := Lib.hid (blk_wrote HB2.out hw7 LQ HGP.out.2.1)
      have Hb7 := Lib.hid (Hb.out.trans (below_wrote hw7 Hb.out.size (lo_le LQ (by have := HGP.out; omega))))
      have z7 : w3.heap.size ≤ w7.heap.size := Nat.le_trans z6 hw7.size
      have HO7 := Lib.hid hO7
      clear hO7 hw7 LQ OQ OP HB2 Hb HO1 P1 HO2 P2 HO3 P3 HO4 P4 HO5 P5
      go_wp2
      go_roundw
      case rel =>
        have e1 : ((ansB ps).take (k + 1)).map bs = ((ansB ps).take k).map bs ++ [bs Y.2] := by rw [HT.out, List.map_append, HA.out]; rfl
        refine ⟨k + 1, A9, c9, A1, c1, A2, c2, A3, c3, A4, c4, A5, c5, by omega, z7, by go_num, rfl, by (show OwnS _ _ _ _ _; rw [e1]; first | exact HO7.out | (rw [List.map_take]; exact HO7.out)), OP7.out, ?_, ?_, ?_, ?_, ?_, ?_, Hb7.out⟩
        · rw [HS.out]; exact HB7.out
        · rw [HS.out]; exact S1.out
        · rw [HS.out]; exact S2.out
        · rw [HS.out]; exact S3.out
        · rw [HS.out]; exact S4.out
        · rw [HS.out]; exact S5.out
      case measure => simp [intOf]; omega
    · obtain rfl : k = ps.length := by omega
      have ho := OQ.out
      rw [List.take_of_length_le (by rw [ansB_len]; exact Nat.le_refl _)] at ho
      have HO := Lib.hid (ownS_mono ho (show w.heap.size ≤ w3.heap.size by have := HGP.out; omega))
      clear ho OQ
      go_wp2
      go_ret2
      rw [HE.out]
      exact ⟨Aq, cq, by rw [ansB_len]; rfl, HO.out, Hb.out⟩
end Go.Proofs.YtgkijkenbjjnmaaGreatDoor
