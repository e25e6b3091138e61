/- A line that is refused, or only asks, leaves the bench as it was, and a bench stays valid: the law FnBenchKeeps gives true at every input. No condition; what the listed variables of Go's library hold is tied to its text. -/
import Derived.Test.YtgkijkenbjjnmaaGreatDoorGenB8
import Derived.Test.YtgkijkenbjjnmaaGreatDoorGenB9
import Derived.Test.YtgkijkenbjjnmaaGreatDoorBExec
import Derived.Test.YtgkijkenbjjnmaaGreatDoorArgB
import Derived.Test.YtgkijkenbjjnmaaGreatDoorCards
import Derived.Test.YtgkijkenbjjnmaaGreatDoorTie
import Derived.Lay
import Derived.LaidOnce
import Derived.SevenTiedAt
namespace Go.Proofs.YtgkijkenbjjnmaaGreatDoor.benchKeepsLaw
open Go.ChangeShapes Go.WideShapes Go.ChangeAt Go.RowKit
set_option linter.unusedVariables false
set_option linter.unusedSimpArgs false
theorem ints_self (A A' : Option Addr) (c c' : Nat) (xs : List Int) (w : World) (hx : Rd w w.heap.size A xs) (hy : Rd w w.heap.size A' xs) (hn : xs.length ≤ 1048576) :
    Calls Tryz.prog 16 #[.slice A xs.length c, .slice A' xs.length c'] w fun e w' => e = .returned (.bool true) ∧ Below w.heap.size w w' := by
  have h := ints_any A A' c c' xs xs w hx hy (by omega)
  rw [eqB_self] at h
  exact h
/-- The questions in the law's order. -/
def askL : List (List UInt8) := [tShape, tMemory, tOutput, tErrors, tInput, tSafe, tSum, tBits, tPower]
theorem asks_mem {t : ByteArray} (h : (askL.map bs).any (fun u => t.toList == u.toList) = true) : t.data.toList ∈ askWords := by
  obtain ⟨u, hu, he⟩ := List.any_eq_true.1 h
  obtain ⟨x, hx, rfl⟩ := List.mem_map.1 hu
  have e : t.toList = (bs x).toList := by simpa using he
  rw [ByteArray.toList_eq, ByteArray.toList_eq] at e
  rw [e]
  exact (by decide : ∀ y ∈ askL, y ∈ askWords) _ (by simpa [bs] using hx)
theorem any_step {t : ByteArray} {xs : List ByteArray} {k : Nat} (hk : k < xs.length) : (xs.take (k + 1)).any (fun u => t.toList == u.toList) = ((xs.take k).any (fun u => t.toList == u.toList) || (t.toList == xs[k].toList)) := by
  rw [List.take_succ_eq_append_getElem hk, List.any_append]
  simp
theorem ask_lit (w : World) : OwnS (w.alloc (.cells #[.string (ByteArray.mk #[115, 104, 97, 112, 101]), .string (ByteArray.mk #[109, 101, 109, 111, 114, 121]), .string (ByteArray.mk #[111, 117, 116, 112, 117, 116]), .string (ByteArray.mk #[101, 114, 114, 111, 114, 115]), .string (ByteArray.mk #[105, 110, 112, 117, 116]), .string (ByteArray.mk #[115, 97, 102, 101]), .string (ByteArray.mk #[115, 117, 109]), .string (ByteArray.mk #[98, 105, 116, 115]), .string (ByteArray.mk #[112, 111, 119, 101, 114])] 9)) w.heap.size (some ⟨w.heap.size, 0, none⟩) 9 (askL.map bs) := by
  have h := World.ownsRow_lit (base := w.heap.size) (e := 9) (size := 1) w ((askL.map bs).map Value.string).toArray 9 (Nat.le_refl _) (by simp only [maxLen]; omega) rfl
  have e : ((askL.map bs).map Value.string).toArray = #[.string (ByteArray.mk #[115, 104, 97, 112, 101]), .string (ByteArray.mk #[109, 101, 109, 111, 114, 121]), .string (ByteArray.mk #[111, 117, 116, 112, 117, 116]), .string (ByteArray.mk #[101, 114, 114, 111, 114, 115]), .string (ByteArray.mk #[105, 110, 112, 117, 116]), .string (ByteArray.mk #[115, 97, 102, 101]), .string (ByteArray.mk #[115, 117, 109]), .string (ByteArray.mk #[98, 105, 116, 115]), .string (ByteArray.mk #[112, 111, 119, 101, 114])] := by rfl
  rw [e] at h
  exact h
set_option maxRecDepth 100000 in
set_option maxHeartbeats 2000000 in
theorem walkw (w : World) (A0 : Option Addr) (n0 c0 : Nat) (l0 : n0 ≤ c0) (m0 : c0 ≤ maxLen) (r0 : RdB w w.heap.size A0 n0) :
    Calls Tryz.prog 4 #[.slice A0 n0 c0] w fun e w' => e = .returned (.bool true) ∧ Below w.heap.size w w' := by
  unfold maxLen at m0
  by_cases hn : n0 ≤ 1048576
  case neg =>
    have hx : 1048576 < n0 := by omega
    clear hn
    go_enter Tryz.func4, Tryz.ntmps4
    go_wp2
    go_ret
    exact ⟨rfl, Below.refl _ _⟩
  have Hb : Hid (Below w.heap.size w w) := Below.refl _ _
  go_enter Tryz.func4, Tryz.ntmps4
  go_wp2_with fail
  refine (MakeBench_any _ _ _ _ (r0.past Hb.out) (by omega)).mono ?_
  rintro e w1 ⟨l, s, Aba, cba, x1, Abb, cbb, x2, Abc, cbc, x3, Abd, cbd, x4, Abe, cbe, x5, rfl, hk, Oba, Obb, Obc, Obd, Obe, h1⟩
  replace Hb := Lib.hid (thenB Hb.out h1)
  have t1 : w.heap.size ≤ w1.heap.size := h1.size
  have Lba := own_lo Oba
  have Uba := own_hi Oba
  have Lbb := own_lo Obb
  have Ubb := own_hi Obb
  have Lbc := own_lo Obc
  have Ubc := own_hi Obc
  have Lbd := own_lo Obd
  have Ubd := own_hi Obd
  have Lbe := own_lo Obe
  have Ube := own_hi Obe
  clear h1
  have bx : Below w1.heap.size w1 (w1.alloc (.cells #[.int .i64 l, .int .i64 s, .slice Aba x1.length cba, .slice Abb x2.length cbb, .slice Abc x3.length cbc, .slice Abd x4.length cbd, .slice Abe x5.length cbe] 33)) := (Below.refl _ _).alloc (Nat.le_refl _) _
  have B0 := Blk.new w1 33 #[.int .i64 l, .int .i64 s, .slice Aba x1.length cba, .slice Abb x2.length cbb, .slice Abc x3.length cbc, .slice Abd x4.length cbd, .slice Abe x5.length cbe]
  have VB0 : w1.heap.size < (w1.alloc (.cells #[.int .i64 l, .int .i64 s, .slice Aba x1.length cba, .slice Abb x2.length cbb, .slice Abc x3.length cbc, .slice Abd x4.length cbd, .slice Abe x5.length cbe] 33)).heap.size := by simp
  replace Oba := own_past Oba bx
  replace Obb := own_past Obb bx
  replace Obc := own_past Obc bx
  replace Obd := own_past Obd bx
  replace Obe := own_past Obe bx
  replace Hb := Lib.hid (thenB Hb.out bx)
  clear bx
  have hlen := ok_lens (X := ⟨l, s, x1, x2, x3, x4, x5⟩) hk
  have n1x : x1.length ≤ 1048576 := by have := hlen; simp only at this; omega
  have n2x : x2.length ≤ 1048576 := by have := hlen; simp only at this; omega
  have n3x : x3.length ≤ 1048576 := by have := hlen; simp only at this; omega
  have n4x : x4.length ≤ 1048576 := by have := hlen; simp only at this; omega
  have n5x : x5.length ≤ 1048576 := by have := hlen; simp only at this; omega
  clear hlen
  have B0c0 := B0.cell 0
  have B0c1 := B0.cell 1
  have B0c2 := B0.cell 2
  have B0c3 := B0.cell 3
  have B0c4 := B0.cell 4
  have B0c5 := B0.cell 5
  have B0c6 := B0.cell 6
  simp at B0c0 B0c1 B0c2 B0c3 B0c4 B0c5 B0c6
  go_wp2_with fail
  refine (fresh_any _ _ _ _ _ (r0.past Hb.out) (by omega) (by omega) (by omega)).mono ?_
  rintro e w2 ⟨Af, cf, nf, rfl, hnf, Rf, h2⟩
  replace Oba := own_past Oba h2
  replace Obb := own_past Obb h2
  replace Obc := own_past Obc h2
  replace Obd := own_past Obd h2
  replace Obe := own_past Obe h2
  replace B0 := B0.past h2
  replace Hb := Lib.hid (thenB Hb.out h2)
  have t3 : (w1.alloc (.cells #[.int .i64 l, .int .i64 s, .slice Aba x1.length cba, .slice Abb x2.length cbb, .slice Abc x3.length cbc, .slice Abd x4.length cbd, .slice Abe x5.length cbe] 33)).heap.size ≤ w2.heap.size := h2.size
  clear h2
  clear B0c0 B0c1 B0c2 B0c3 B0c4 B0c5 B0c6
  have B0c0 := B0.cell 0
  have B0c1 := B0.cell 1
  have B0c2 := B0.cell 2
  have B0c3 := B0.cell 3
  have B0c4 := B0.cell 4
  have B0c5 := B0.cell 5
  have B0c6 := B0.cell 6
  simp at B0c0 B0c1 B0c2 B0c3 B0c4 B0c5 B0c6
  go_wp2_with fail
  refine (MakeLine_any _ _ _ _ Rf (by omega)).mono ?_
  rintro e w3 ⟨t, rfl, ht, h3⟩
  replace Oba := own_past Oba h3
  replace Obb := own_past Obb h3
  replace Obc := own_past Obc h3
  replace Obd := own_past Obd h3
  replace Obe := own_past Obe h3
  replace B0 := B0.past h3
  replace Hb := Lib.hid (thenB Hb.out h3)
  replace Rf := Rf.past h3
  have t4 : w2.heap.size ≤ w3.heap.size := h3.size
  clear h3
  clear Rf
  have hok := exec_ok (X := ⟨l, s, x1, x2, x3, x4, x5⟩) (l := t.data.toList) hk
  have hne := exec_ne (X := ⟨l, s, x1, x2, x3, x4, x5⟩) (l := t.data.toList)
  have hsame := exec_same (X := ⟨l, s, x1, x2, x3, x4, x5⟩) (l := t.data.toList)
  obtain ⟨R, hR⟩ : ∃ R, R = exec ⟨l, s, x1, x2, x3, x4, x5⟩ t.data.toList := ⟨_, rfl⟩
  rw [← hR] at hok hne hsame
  obtain ⟨⟨yl, ys, y1, y2, y3, y4, y5⟩, tt⟩ := R
  have HG : Hid (∀ W B1 B2 B3 B4 B5 d1 d2 d3 d4 d5, Rd W W.heap.size B1 x1 → Rd W W.heap.size B2 x2 → Rd W W.heap.size B3 x3 → Rd W W.heap.size B4 x4 → Rd W W.heap.size B5 x5 → Calls Tryz.prog 11 #[.agg #[.int .i64 l, .int .i64 s, .slice B1 x1.length d1, .slice B2 x2.length d2, .slice B3 x3.length d3, .slice B4 x4.length d4, .slice B5 x5.length d5], .string t] W (fun e w' => ∃ A1 c1 A2 c2 A3 c3 A4 c4 A5 c5, e = .returned (.tuple #[.agg #[.int .i64 (yl), .int .i64 (ys), .slice A1 (y1).length c1, .slice A2 (y2).length c2, .slice A3 (y3).length c3, .slice A4 (y4).length c4, .slice A5 (y5).length c5], .string (bs (tt))]) ∧ Own w' W.heap.size A1 c1 (y1) ∧ Own w' W.heap.size A2 c2 (y2) ∧ Own w' W.heap.size A3 c3 (y3) ∧ Own w' W.heap.size A4 c4 (y4) ∧ Own w' W.heap.size A5 c5 (y5) ∧ Apart A1 A2 ∧ Apart A1 A3 ∧ Apart A1 A4 ∧ Apart A1 A5 ∧ Apart A2 A3 ∧ Apart A2 A4 ∧ Apart A2 A5 ∧ Apart A3 A4 ∧ Apart A3 A5 ∧ Apart A4 A5 ∧ Below W.heap.size W w')) := fun W B1 B2 B3 B4 B5 d1 d2 d3 d4 d5 g1 g2 g3 g4 g5 => by have h := implExec_any l s B1 B2 B3 B4 B5 d1 d2 d3 d4 d5 x1 x2 x3 x4 x5 t W g1 g2 g3 g4 g5 n1x n2x n3x n4x n5x (by omega); rw [← hR] at h; exact h
  have hlen := ok_lens (X := ⟨yl, ys, y1, y2, y3, y4, y5⟩) hok
  have k1x : y1.length ≤ 1048576 := by have := hlen; simp only at this; omega
  have k2x : y2.length ≤ 1048576 := by have := hlen; simp only at this; omega
  have k3x : y3.length ≤ 1048576 := by have := hlen; simp only at this; omega
  have k4x : y4.length ≤ 1048576 := by have := hlen; simp only at this; omega
  have k5x : y5.length ≤ 1048576 := by have := hlen; simp only at this; omega
  have HIS : Hid (∀ W A1 A2 A3 A4 A5 c1 c2 c3 c4 c5, Rd W W.heap.size A1 y1 → Rd W W.heap.size A2 y2 → Rd W W.heap.size A3 y3 → Rd W W.heap.size A4 y4 → Rd W W.heap.size A5 y5 → Calls Tryz.prog 15 #[.agg #[.int .i64 yl, .int .i64 ys, .slice A1 y1.length c1, .slice A2 y2.length c2, .slice A3 y3.length c3, .slice A4 y4.length c4, .slice A5 y5.length c5]] W fun e w' => e = .returned (.bool true) ∧ Below W.heap.size W w') := fun W A1 A2 A3 A4 A5 c1 c2 c3 c4 c5 h1 h2 h3 h4 h5 => by have h := specIsBench_any yl ys A1 A2 A3 A4 A5 c1 c2 c3 c4 c5 y1 y2 y3 y4 y5 W h1 h2 h3 h4 h5 k1x k2x k3x k4x k5x; rw [show benchOk yl ys y1 y2 y3 y4 y5 = true from hok] at h; exact h
  have HSame := Lib.hid hsame
  have hne2 : tt ≠ [] := hne
  have te1 : ((bs tt).toList == []) = false := by rw [ByteArray.toList_eq]; simpa [bs] using hne2
  have ts : ((bs tt).toList != (bs tt).toList) = false := by simp
  have tn : ((bs tt).toList == [110, 111]) = true → tt = noT := fun h => by rw [ByteArray.toList_eq] at h; simpa [bs, noT] using h
  have HTn := Lib.hid tn
  clear tn
  clear hk hok hne hne2 hsame hR hlen
  clear B0c0 B0c1 B0c2 B0c3 B0c4 B0c5 B0c6
  have B0c0 := B0.cell 0
  have B0c1 := B0.cell 1
  have B0c2 := B0.cell 2
  have B0c3 := B0.cell 3
  have B0c4 := B0.cell 4
  have B0c5 := B0.cell 5
  have B0c6 := B0.cell 6
  simp at B0c0 B0c1 B0c2 B0c3 B0c4 B0c5 B0c6
  go_wp2_with fail
  refine (HG.out _ Aba Abb Abc Abd Abe cba cbb cbc cbd cbe (own_rd Oba) (own_rd Obb) (own_rd Obc) (own_rd Obd) (own_rd Obe)).mono ?_
  rintro e w4 ⟨Aga, cga, Agb, cgb, Agc, cgc, Agd, cgd, Age, cge, rfl, Oga, Ogb, Ogc, Ogd, Oge, Pgagb, Pgagc, Pgagd, Pgage, Pgbgc, Pgbgd, Pgbge, Pgcgd, Pgcge, Pgdge, h4⟩
  replace Oba := own_past Oba h4
  replace Obb := own_past Obb h4
  replace Obc := own_past Obc h4
  replace Obd := own_past Obd h4
  replace Obe := own_past Obe h4
  replace B0 := B0.past h4
  replace Hb := Lib.hid (thenB Hb.out h4)
  have t5 : w3.heap.size ≤ w4.heap.size := h4.size
  have Lga := own_lo Oga
  have Uga := own_hi Oga
  have Lgb := own_lo Ogb
  have Ugb := own_hi Ogb
  have Lgc := own_lo Ogc
  have Ugc := own_hi Ogc
  have Lgd := own_lo Ogd
  have Ugd := own_hi Ogd
  have Lge := own_lo Oge
  have Uge := own_hi Oge
  clear h4
  have bx : Below w4.heap.size w4 (w4.alloc (.cells #[.int .i64 yl, .int .i64 ys, .slice Aga y1.length cga, .slice Agb y2.length cgb, .slice Agc y3.length cgc, .slice Agd y4.length cgd, .slice Age y5.length cge] 33)) := (Below.refl _ _).alloc (Nat.le_refl _) _
  have Sg := Blk.new w4 33 #[.int .i64 yl, .int .i64 ys, .slice Aga y1.length cga, .slice Agb y2.length cgb, .slice Agc y3.length cgc, .slice Agd y4.length cgd, .slice Age y5.length cge]
  have VSg : w4.heap.size < (w4.alloc (.cells #[.int .i64 yl, .int .i64 ys, .slice Aga y1.length cga, .slice Agb y2.length cgb, .slice Agc y3.length cgc, .slice Agd y4.length cgd, .slice Age y5.length cge] 33)).heap.size := by simp
  replace Oba := own_past Oba bx
  replace Obb := own_past Obb bx
  replace Obc := own_past Obc bx
  replace Obd := own_past Obd bx
  replace Obe := own_past Obe bx
  replace Oga := own_past Oga bx
  replace Ogb := own_past Ogb bx
  replace Ogc := own_past Ogc bx
  replace Ogd := own_past Ogd bx
  replace Oge := own_past Oge bx
  replace B0 := B0.past bx
  replace Hb := Lib.hid (thenB Hb.out bx)
  clear bx
  clear B0c0 B0c1 B0c2 B0c3 B0c4 B0c5 B0c6
  have B0c0 := B0.cell 0
  have B0c1 := B0.cell 1
  have B0c2 := B0.cell 2
  have B0c3 := B0.cell 3
  have B0c4 := B0.cell 4
  have B0c5 := B0.cell 5
  have B0c6 := B0.cell 6
  have Sgc0 := Sg.cell 0
  have Sgc1 := Sg.cell 1
  have Sgc2 := Sg.cell 2
  have Sgc3 := Sg.cell 3
  have Sgc4 := Sg.cell 4
  have Sgc5 := Sg.cell 5
  have Sgc6 := Sg.cell 6
  simp at B0c0 B0c1 B0c2 B0c3 B0c4 B0c5 B0c6 Sgc0 Sgc1 Sgc2 Sgc3 Sgc4 Sgc5 Sgc6
  go_wp2_with fail
  refine (HG.out _ Aba Abb Abc Abd Abe cba cbb cbc cbd cbe (own_rd Oba) (own_rd Obb) (own_rd Obc) (own_rd Obd) (own_rd Obe)).mono ?_
  rintro e w5 ⟨Aha, cha, Ahb, chb, Ahc, chc, Ahd, chd, Ahe, che, rfl, Oha, Ohb, Ohc, Ohd, Ohe, Phahb, Phahc, Phahd, Phahe, Phbhc, Phbhd, Phbhe, Phchd, Phche, Phdhe, h5⟩
  replace Oba := own_past Oba h5
  replace Obb := own_past Obb h5
  replace Obc := own_past Obc h5
  replace Obd := own_past Obd h5
  replace Obe := own_past Obe h5
  replace Oga := own_past Oga h5
  replace Ogb := own_past Ogb h5
  replace Ogc := own_past Ogc h5
  replace Ogd := own_past Ogd h5
  replace Oge := own_past Oge h5
  replace B0 := B0.past h5
  replace Sg := Sg.past h5
  replace Hb := Lib.hid (thenB Hb.out h5)
  have t7 : (w4.alloc (.cells #[.int .i64 yl, .int .i64 ys, .slice Aga y1.length cga, .slice Agb y2.length cgb, .slice Agc y3.length cgc, .slice Agd y4.length cgd, .slice Age y5.length cge] 33)).heap.size ≤ w5.heap.size := h5.size
  have Lha := own_lo Oha
  have Uha := own_hi Oha
  have Lhb := own_lo Ohb
  have Uhb := own_hi Ohb
  have Lhc := own_lo Ohc
  have Uhc := own_hi Ohc
  have Lhd := own_lo Ohd
  have Uhd := own_hi Ohd
  have Lhe := own_lo Ohe
  have Uhe := own_hi Ohe
  clear h5
  have bx : Below w5.heap.size w5 (w5.alloc (.cells #[.int .i64 yl, .int .i64 ys, .slice Aha y1.length cha, .slice Ahb y2.length chb, .slice Ahc y3.length chc, .slice Ahd y4.length chd, .slice Ahe y5.length che] 33)) := (Below.refl _ _).alloc (Nat.le_refl _) _
  have Sh := Blk.new w5 33 #[.int .i64 yl, .int .i64 ys, .slice Aha y1.length cha, .slice Ahb y2.length chb, .slice Ahc y3.length chc, .slice Ahd y4.length chd, .slice Ahe y5.length che]
  have VSh : w5.heap.size < (w5.alloc (.cells #[.int .i64 yl, .int .i64 ys, .slice Aha y1.length cha, .slice Ahb y2.length chb, .slice Ahc y3.length chc, .slice Ahd y4.length chd, .slice Ahe y5.length che] 33)).heap.size := by simp
  replace Oba := own_past Oba bx
  replace Obb := own_past Obb bx
  replace Obc := own_past Obc bx
  replace Obd := own_past Obd bx
  replace Obe := own_past Obe bx
  replace Oga := own_past Oga bx
  replace Ogb := own_past Ogb bx
  replace Ogc := own_past Ogc bx
  replace Ogd := own_past Ogd bx
  replace Oge := own_past Oge bx
  replace Oha := own_past Oha bx
  replace Ohb := own_past Ohb bx
  replace Ohc := own_past Ohc bx
  replace Ohd := own_past Ohd bx
  replace Ohe := own_past Ohe bx
  replace B0 := B0.past bx
  replace Sg := Sg.past bx
  replace Hb := Lib.hid (thenB Hb.out bx)
  clear bx
  clear B0c0 B0c1 B0c2 B0c3 B0c4 B0c5 B0c6 Sgc0 Sgc1 Sgc2 Sgc3 Sgc4 Sgc5 Sgc6
  have B0c0 := B0.cell 0
  have B0c1 := B0.cell 1
  have B0c2 := B0.cell 2
  have B0c3 := B0.cell 3
  have B0c4 := B0.cell 4
  have B0c5 := B0.cell 5
  have B0c6 := B0.cell 6
  have Sgc0 := Sg.cell 0
  have Sgc1 := Sg.cell 1
  have Sgc2 := Sg.cell 2
  have Sgc3 := Sg.cell 3
  have Sgc4 := Sg.cell 4
  have Sgc5 := Sg.cell 5
  have Sgc6 := Sg.cell 6
  have Shc0 := Sh.cell 0
  have Shc1 := Sh.cell 1
  have Shc2 := Sh.cell 2
  have Shc3 := Sh.cell 3
  have Shc4 := Sh.cell 4
  have Shc5 := Sh.cell 5
  have Shc6 := Sh.cell 6
  simp at B0c0 B0c1 B0c2 B0c3 B0c4 B0c5 B0c6 Sgc0 Sgc1 Sgc2 Sgc3 Sgc4 Sgc5 Sgc6 Shc0 Shc1 Shc2 Shc3 Shc4 Shc5 Shc6
  go_wp2_with fail
  refine (HIS.out _ Aga Agb Agc Agd Age cga cgb cgc cgd cge (own_rd Oga) (own_rd Ogb) (own_rd Ogc) (own_rd Ogd) (own_rd Oge)).mono ?_
  rintro e w6 ⟨rfl, h6⟩
  replace Oba := own_past Oba h6
  replace Obb := own_past Obb h6
  replace Obc := own_past Obc h6
  replace Obd := own_past Obd h6
  replace Obe := own_past Obe h6
  replace Oga := own_past Oga h6
  replace Ogb := own_past Ogb h6
  replace Ogc := own_past Ogc h6
  replace Ogd := own_past Ogd h6
  replace Oge := own_past Oge h6
  replace Oha := own_past Oha h6
  replace Ohb := own_past Ohb h6
  replace Ohc := own_past Ohc h6
  replace Ohd := own_past Ohd h6
  replace Ohe := own_past Ohe h6
  replace B0 := B0.past h6
  replace Sg := Sg.past h6
  replace Sh := Sh.past h6
  replace Hb := Lib.hid (thenB Hb.out h6)
  have t9 : (w5.alloc (.cells #[.int .i64 yl, .int .i64 ys, .slice Aha y1.length cha, .slice Ahb y2.length chb, .slice Ahc y3.length chc, .slice Ahd y4.length chd, .slice Ahe y5.length che] 33)).heap.size ≤ w6.heap.size := h6.size
  clear h6
  clear B0c0 B0c1 B0c2 B0c3 B0c4 B0c5 B0c6 Sgc0 Sgc1 Sgc2 Sgc3 Sgc4 Sgc5 Sgc6 Shc0 Shc1 Shc2 Shc3 Shc4 Shc5 Shc6
  have B0c0 := B0.cell 0
  have B0c1 := B0.cell 1
  have B0c2 := B0.cell 2
  have B0c3 := B0.cell 3
  have B0c4 := B0.cell 4
  have B0c5 := B0.cell 5
  have B0c6 := B0.cell 6
  have Sgc0 := Sg.cell 0
  have Sgc1 := Sg.cell 1
  have Sgc2 := Sg.cell 2
  have Sgc3 := Sg.cell 3
  have Sgc4 := Sg.cell 4
  have Sgc5 := Sg.cell 5
  have Sgc6 := Sg.cell 6
  have Shc0 := Sh.cell 0
  have Shc1 := Sh.cell 1
  have Shc2 := Sh.cell 2
  have Shc3 := Sh.cell 3
  have Shc4 := Sh.cell 4
  have Shc5 := Sh.cell 5
  have Shc6 := Sh.cell 6
  simp at B0c0 B0c1 B0c2 B0c3 B0c4 B0c5 B0c6 Sgc0 Sgc1 Sgc2 Sgc3 Sgc4 Sgc5 Sgc6 Shc0 Shc1 Shc2 Shc3 Shc4 Shc5 Shc6
  go_wp2_with fail
  refine (ints_self Agd Ahd cgd chd y4 _ (own_rd Ogd) (own_rd Ohd) (by omega)).mono ?_
  rintro e w7 ⟨rfl, h7⟩
  replace Oba := own_past Oba h7
  replace Obb := own_past Obb h7
  replace Obc := own_past Obc h7
  replace Obd := own_past Obd h7
  replace Obe := own_past Obe h7
  replace Oga := own_past Oga h7
  replace Ogb := own_past Ogb h7
  replace Ogc := own_past Ogc h7
  replace Ogd := own_past Ogd h7
  replace Oge := own_past Oge h7
  replace Oha := own_past Oha h7
  replace Ohb := own_past Ohb h7
  replace Ohc := own_past Ohc h7
  replace Ohd := own_past Ohd h7
  replace Ohe := own_past Ohe h7
  replace B0 := B0.past h7
  replace Sg := Sg.past h7
  replace Sh := Sh.past h7
  replace Hb := Lib.hid (thenB Hb.out h7)
  have t10 : w6.heap.size ≤ w7.heap.size := h7.size
  clear h7
  clear Oha Lha Uha
  clear Ohb Lhb Uhb
  clear Ohc Lhc Uhc
  clear Ohd Lhd Uhd
  clear Ohe Lhe Uhe
  have OW := ask_lit w7
  have bx : Below w7.heap.size w7 (w7.alloc (.cells #[.string (ByteArray.mk #[115, 104, 97, 112, 101]), .string (ByteArray.mk #[109, 101, 109, 111, 114, 121]), .string (ByteArray.mk #[111, 117, 116, 112, 117, 116]), .string (ByteArray.mk #[101, 114, 114, 111, 114, 115]), .string (ByteArray.mk #[105, 110, 112, 117, 116]), .string (ByteArray.mk #[115, 97, 102, 101]), .string (ByteArray.mk #[115, 117, 109]), .string (ByteArray.mk #[98, 105, 116, 115]), .string (ByteArray.mk #[112, 111, 119, 101, 114])] 9)) := (Below.refl _ _).alloc (Nat.le_refl _) _
  replace Oba := own_past Oba bx
  replace Obb := own_past Obb bx
  replace Obc := own_past Obc bx
  replace Obd := own_past Obd bx
  replace Obe := own_past Obe bx
  replace Oga := own_past Oga bx
  replace Ogb := own_past Ogb bx
  replace Ogc := own_past Ogc bx
  replace Ogd := own_past Ogd bx
  replace Oge := own_past Oge bx
  replace B0 := B0.past bx
  replace Sg := Sg.past bx
  replace Hb := Lib.hid (thenB Hb.out bx)
  clear bx
  have HOW := Lib.hid OW
  clear OW
  have HAM := Lib.hid (asks_mem (t := t))
  have HAS := Lib.hid (fun k => any_step (t := t) (xs := askL.map bs) (k := k))
  obtain ⟨ws, hws⟩ : ∃ ws, ws = askL.map bs := ⟨_, rfl⟩
  have hwl : ws.length = 9 := by rw [hws]; rfl
  rw [← hws] at HOW HAM HAS
  have HWL := Lib.hid hwl
  clear hws hwl
  clear B0c0 B0c1 B0c2 B0c3 B0c4 B0c5 B0c6 Sgc0 Sgc1 Sgc2 Sgc3 Sgc4 Sgc5 Sgc6 Shc0 Shc1 Shc2 Shc3 Shc4 Shc5 Shc6
  have B0c0 := B0.cell 0
  have B0c1 := B0.cell 1
  have B0c2 := B0.cell 2
  have B0c3 := B0.cell 3
  have B0c4 := B0.cell 4
  have B0c5 := B0.cell 5
  have B0c6 := B0.cell 6
  have Sgc0 := Sg.cell 0
  have Sgc1 := Sg.cell 1
  have Sgc2 := Sg.cell 2
  have Sgc3 := Sg.cell 3
  have Sgc4 := Sg.cell 4
  have Sgc5 := Sg.cell 5
  have Sgc6 := Sg.cell 6
  simp at B0c0 B0c1 B0c2 B0c3 B0c4 B0c5 B0c6 Sgc0 Sgc1 Sgc2 Sgc3 Sgc4 Sgc5 Sgc6
  go_upto_region 11 with fail
  obtain ⟨b0, hb0⟩ : ∃ b : Bool, b = ((bs tt).toList == [110, 111]) := ⟨_, rfl⟩
  rw [← hb0] at HTn ⊢
  clear hb0
  go_loop [9, 56] (fun q i => ∃ (k : Nat) (bq : Bool), k ≤ 9 ∧ i = .int .i64 k ∧ q = .bool bq ∧ Hid (bq = (b0 || (ws.take k).any (fun u => t.toList == u.toList)))) (fun _ i => 9 - (intOf i).toNat)
  case atStart => exact ⟨0, b0, by omega, rfl, rfl, by show _ = _; simp⟩
  case round =>
    obtain ⟨k, bq, hk, rfl, rfl, HQ⟩ := hrel
    by_cases hlt : k < 9
    · have hkw : k < ws.length := by rw [HWL.out]; exact hlt
      have c1 := ownS_cell2 HOW.out hkw
      have HA := Lib.hid (HAS.out k hkw)
      obtain ⟨u, hu⟩ : ∃ u, u = ws[k] := ⟨_, rfl⟩
      rw [← hu] at c1 HA
      clear hu hkw
      obtain ⟨be, hbe⟩ : ∃ b : Bool, b = (t.toList == u.toList) := ⟨_, rfl⟩
      rw [← hbe] at HA
      have hbe2 := hbe.symm
      clear hbe
      cases bq
      all_goals
        go_wp2_with fail
        go_round
        case rel => exact ⟨k + 1, _, by omega, by go_num, rfl, by show _ = _; rw [HA.out, ← Bool.or_assoc, ← HQ.out]; simp⟩
        case measure => simp [intOf]; omega
    · obtain rfl : k = 9 := by omega
      have hq : bq = true → (tt = noT ∨ t.data.toList ∈ askWords) := fun h => by have h1 := HQ.out; rw [h, List.take_of_length_le (by rw [HWL.out]; omega)] at h1; have h2 := (Bool.or_eq_true _ _).mp h1.symm; exact h2.elim (fun q => .inl (HTn.out q)) (fun q => .inr (HAM.out q))
      have HQQ := Lib.hid hq
      clear hq
      clear HQ HAM HAS hlt hk HTn te1 ts HOW HWL
      cases bq
      · go_wp2_with fail
        go_quiet (fail)
        go_wp2
        go_ret
        exact ⟨rfl, below_drewN' Hb.out _⟩
      · have hs := HSame.out (HQQ.out rfl)
        injection hs with h1 h2 h3 h4 h5 h6 h7
        subst h1 h2 h3 h4 h5 h6 h7
        clear HQQ HSame
        obtain ⟨F, hF⟩ : ∃ F, F = bs (fmtMI yl ys y1) := ⟨_, rfl⟩
        have HFM : Hid (∀ W A c, Rd W W.heap.size A y1 → y1.length ≤ c ∧ c ≤ maxLen → Calls Tryz.prog 20 #[.agg #[.int .i64 yl, .int .i64 ys, .slice A y1.length c]] W fun e w' => e = .returned (.string F) ∧ Below W.heap.size W w') := fun W A c h k => by rw [hF]; exact specFormatM_any yl ys A c y1 W h n1x k.1 (by have := k.2; unfold maxLen at this; exact this)
        clear hF
        have tF : (F.toList == F.toList) = true := by simp
        have HC1 := Lib.hid (own_cap Oga)
        have HC2 := Lib.hid (own_cap Oba)
        have bx : Below (w7.alloc (.cells #[.string (ByteArray.mk #[115, 104, 97, 112, 101]), .string (ByteArray.mk #[109, 101, 109, 111, 114, 121]), .string (ByteArray.mk #[111, 117, 116, 112, 117, 116]), .string (ByteArray.mk #[101, 114, 114, 111, 114, 115]), .string (ByteArray.mk #[105, 110, 112, 117, 116]), .string (ByteArray.mk #[115, 97, 102, 101]), .string (ByteArray.mk #[115, 117, 109]), .string (ByteArray.mk #[98, 105, 116, 115]), .string (ByteArray.mk #[112, 111, 119, 101, 114])] 9)).heap.size (w7.alloc (.cells #[.string (ByteArray.mk #[115, 104, 97, 112, 101]), .string (ByteArray.mk #[109, 101, 109, 111, 114, 121]), .string (ByteArray.mk #[111, 117, 116, 112, 117, 116]), .string (ByteArray.mk #[101, 114, 114, 111, 114, 115]), .string (ByteArray.mk #[105, 110, 112, 117, 116]), .string (ByteArray.mk #[115, 97, 102, 101]), .string (ByteArray.mk #[115, 117, 109]), .string (ByteArray.mk #[98, 105, 116, 115]), .string (ByteArray.mk #[112, 111, 119, 101, 114])] 9)) (w7.alloc (.cells #[.string (ByteArray.mk #[115, 104, 97, 112, 101]), .string (ByteArray.mk #[109, 101, 109, 111, 114, 121]), .string (ByteArray.mk #[111, 117, 116, 112, 117, 116]), .string (ByteArray.mk #[101, 114, 114, 111, 114, 115]), .string (ByteArray.mk #[105, 110, 112, 117, 116]), .string (ByteArray.mk #[115, 97, 102, 101]), .string (ByteArray.mk #[115, 117, 109]), .string (ByteArray.mk #[98, 105, 116, 115]), .string (ByteArray.mk #[112, 111, 119, 101, 114])] 9)).drew := (Below.refl _ _).drew
        replace Oba := own_past Oba bx
        replace Obb := own_past Obb bx
        replace Obc := own_past Obc bx
        replace Obd := own_past Obd bx
        replace Obe := own_past Obe bx
        replace Oga := own_past Oga bx
        replace Ogb := own_past Ogb bx
        replace Ogc := own_past Ogc bx
        replace Ogd := own_past Ogd bx
        replace Oge := own_past Oge bx
        replace B0 := B0.past bx
        replace Sg := Sg.past bx
        replace Hb := Lib.hid (thenB Hb.out bx)
        clear bx
        have t11 : (w7.alloc (.cells #[.string (ByteArray.mk #[115, 104, 97, 112, 101]), .string (ByteArray.mk #[109, 101, 109, 111, 114, 121]), .string (ByteArray.mk #[111, 117, 116, 112, 117, 116]), .string (ByteArray.mk #[101, 114, 114, 111, 114, 115]), .string (ByteArray.mk #[105, 110, 112, 117, 116]), .string (ByteArray.mk #[115, 97, 102, 101]), .string (ByteArray.mk #[115, 117, 109]), .string (ByteArray.mk #[98, 105, 116, 115]), .string (ByteArray.mk #[112, 111, 119, 101, 114])] 9)).heap.size ≤ (w7.alloc (.cells #[.string (ByteArray.mk #[115, 104, 97, 112, 101]), .string (ByteArray.mk #[109, 101, 109, 111, 114, 121]), .string (ByteArray.mk #[111, 117, 116, 112, 117, 116]), .string (ByteArray.mk #[101, 114, 114, 111, 114, 115]), .string (ByteArray.mk #[105, 110, 112, 117, 116]), .string (ByteArray.mk #[115, 97, 102, 101]), .string (ByteArray.mk #[115, 117, 109]), .string (ByteArray.mk #[98, 105, 116, 115]), .string (ByteArray.mk #[112, 111, 119, 101, 114])] 9)).drew.heap.size := Nat.le_refl _
        clear B0c0 B0c1 B0c2 B0c3 B0c4 B0c5 B0c6 Sgc0 Sgc1 Sgc2 Sgc3 Sgc4 Sgc5 Sgc6
        have B0c0 := B0.cell 0
        have B0c1 := B0.cell 1
        have B0c2 := B0.cell 2
        have B0c3 := B0.cell 3
        have B0c4 := B0.cell 4
        have B0c5 := B0.cell 5
        have B0c6 := B0.cell 6
        have Sgc0 := Sg.cell 0
        have Sgc1 := Sg.cell 1
        have Sgc2 := Sg.cell 2
        have Sgc3 := Sg.cell 3
        have Sgc4 := Sg.cell 4
        have Sgc5 := Sg.cell 5
        have Sgc6 := Sg.cell 6
        simp at B0c0 B0c1 B0c2 B0c3 B0c4 B0c5 B0c6 Sgc0 Sgc1 Sgc2 Sgc3 Sgc4 Sgc5 Sgc6
        go_wp2_with fail
        go_region_held3 (fun w' => w'.cell? ⟨w4.heap.size, 0, none⟩ = some (.int .i64 yl) ∧ w'.cell? ⟨w4.heap.size, 1, none⟩ = some (.int .i64 ys) ∧ w'.cell? ⟨w4.heap.size, 2, none⟩ = some (.slice Aga y1.length cga) ∧ w'.cell? ⟨w4.heap.size, 3, none⟩ = some (.slice Agb y2.length cgb) ∧ w'.cell? ⟨w4.heap.size, 4, none⟩ = some (.slice Agc y3.length cgc) ∧ w'.cell? ⟨w4.heap.size, 5, none⟩ = some (.slice Agd y4.length cgd) ∧ w'.cell? ⟨w4.heap.size, 6, none⟩ = some (.slice Age y5.length cge) ∧ w'.cell? ⟨w1.heap.size, 0, none⟩ = some (.int .i64 yl) ∧ w'.cell? ⟨w1.heap.size, 1, none⟩ = some (.int .i64 ys) ∧ w'.cell? ⟨w1.heap.size, 2, none⟩ = some (.slice Aba y1.length cba) ∧ w'.cell? ⟨w1.heap.size, 3, none⟩ = some (.slice Abb y2.length cbb) ∧ w'.cell? ⟨w1.heap.size, 4, none⟩ = some (.slice Abc y3.length cbc) ∧ w'.cell? ⟨w1.heap.size, 5, none⟩ = some (.slice Abd y4.length cbd) ∧ w'.cell? ⟨w1.heap.size, 6, none⟩ = some (.slice Abe y5.length cbe)) (first | go_keep)
          (first
            | (go_at_call 16; clear B0c0 B0c1 B0c2 B0c3 B0c4 B0c5 B0c6 Sgc0 Sgc1 Sgc2 Sgc3 Sgc4 Sgc5 Sgc6; have B0c0 := B0.cell 0; have B0c1 := B0.cell 1; have B0c2 := B0.cell 2; have B0c3 := B0.cell 3; have B0c4 := B0.cell 4; have B0c5 := B0.cell 5; have B0c6 := B0.cell 6; have Sgc0 := Sg.cell 0; have Sgc1 := Sg.cell 1; have Sgc2 := Sg.cell 2; have Sgc3 := Sg.cell 3; have Sgc4 := Sg.cell 4; have Sgc5 := Sg.cell 5; have Sgc6 := Sg.cell 6; simp at B0c0 B0c1 B0c2 B0c3 B0c4 B0c5 B0c6 Sgc0 Sgc1 Sgc2 Sgc3 Sgc4 Sgc5 Sgc6; (with_reducible refine (ints_self Agb Abb cgb cbb y2 _ (own_rd Ogb) (own_rd Obb) (by omega)).mono ?_); rintro e w8 ⟨rfl, h8⟩; replace Oba := own_past Oba h8; replace Obb := own_past Obb h8; replace Obc := own_past Obc h8; replace Obd := own_past Obd h8; replace Obe := own_past Obe h8; replace Oga := own_past Oga h8; replace Ogb := own_past Ogb h8; replace Ogc := own_past Ogc h8; replace Ogd := own_past Ogd h8; replace Oge := own_past Oge h8; replace B0 := B0.past h8; replace Sg := Sg.past h8; replace Hb := Lib.hid (thenB Hb.out h8); have t12 : (w7.alloc (.cells #[.string (ByteArray.mk #[115, 104, 97, 112, 101]), .string (ByteArray.mk #[109, 101, 109, 111, 114, 121]), .string (ByteArray.mk #[111, 117, 116, 112, 117, 116]), .string (ByteArray.mk #[101, 114, 114, 111, 114, 115]), .string (ByteArray.mk #[105, 110, 112, 117, 116]), .string (ByteArray.mk #[115, 97, 102, 101]), .string (ByteArray.mk #[115, 117, 109]), .string (ByteArray.mk #[98, 105, 116, 115]), .string (ByteArray.mk #[112, 111, 119, 101, 114])] 9)).drew.heap.size ≤ w8.heap.size := h8.size; clear h8; clear B0c0 B0c1 B0c2 B0c3 B0c4 B0c5 B0c6 Sgc0 Sgc1 Sgc2 Sgc3 Sgc4 Sgc5 Sgc6; have B0c0 := B0.cell 0; have B0c1 := B0.cell 1; have B0c2 := B0.cell 2; have B0c3 := B0.cell 3; have B0c4 := B0.cell 4; have B0c5 := B0.cell 5; have B0c6 := B0.cell 6; have Sgc0 := Sg.cell 0; have Sgc1 := Sg.cell 1; have Sgc2 := Sg.cell 2; have Sgc3 := Sg.cell 3; have Sgc4 := Sg.cell 4; have Sgc5 := Sg.cell 5; have Sgc6 := Sg.cell 6; simp at B0c0 B0c1 B0c2 B0c3 B0c4 B0c5 B0c6 Sgc0 Sgc1 Sgc2 Sgc3 Sgc4 Sgc5 Sgc6)
            | (go_at_call 16; clear B0c0 B0c1 B0c2 B0c3 B0c4 B0c5 B0c6 Sgc0 Sgc1 Sgc2 Sgc3 Sgc4 Sgc5 Sgc6; have B0c0 := B0.cell 0; have B0c1 := B0.cell 1; have B0c2 := B0.cell 2; have B0c3 := B0.cell 3; have B0c4 := B0.cell 4; have B0c5 := B0.cell 5; have B0c6 := B0.cell 6; have Sgc0 := Sg.cell 0; have Sgc1 := Sg.cell 1; have Sgc2 := Sg.cell 2; have Sgc3 := Sg.cell 3; have Sgc4 := Sg.cell 4; have Sgc5 := Sg.cell 5; have Sgc6 := Sg.cell 6; simp at B0c0 B0c1 B0c2 B0c3 B0c4 B0c5 B0c6 Sgc0 Sgc1 Sgc2 Sgc3 Sgc4 Sgc5 Sgc6; (with_reducible refine (ints_self Agc Abc cgc cbc y3 _ (own_rd Ogc) (own_rd Obc) (by omega)).mono ?_); rintro e w9 ⟨rfl, h9⟩; replace Oba := own_past Oba h9; replace Obb := own_past Obb h9; replace Obc := own_past Obc h9; replace Obd := own_past Obd h9; replace Obe := own_past Obe h9; replace Oga := own_past Oga h9; replace Ogb := own_past Ogb h9; replace Ogc := own_past Ogc h9; replace Ogd := own_past Ogd h9; replace Oge := own_past Oge h9; replace B0 := B0.past h9; replace Sg := Sg.past h9; replace Hb := Lib.hid (thenB Hb.out h9); have t13 : w8.heap.size ≤ w9.heap.size := h9.size; clear h9; clear B0c0 B0c1 B0c2 B0c3 B0c4 B0c5 B0c6 Sgc0 Sgc1 Sgc2 Sgc3 Sgc4 Sgc5 Sgc6; have B0c0 := B0.cell 0; have B0c1 := B0.cell 1; have B0c2 := B0.cell 2; have B0c3 := B0.cell 3; have B0c4 := B0.cell 4; have B0c5 := B0.cell 5; have B0c6 := B0.cell 6; have Sgc0 := Sg.cell 0; have Sgc1 := Sg.cell 1; have Sgc2 := Sg.cell 2; have Sgc3 := Sg.cell 3; have Sgc4 := Sg.cell 4; have Sgc5 := Sg.cell 5; have Sgc6 := Sg.cell 6; simp at B0c0 B0c1 B0c2 B0c3 B0c4 B0c5 B0c6 Sgc0 Sgc1 Sgc2 Sgc3 Sgc4 Sgc5 Sgc6)
            | (go_at_call 16; clear B0c0 B0c1 B0c2 B0c3 B0c4 B0c5 B0c6 Sgc0 Sgc1 Sgc2 Sgc3 Sgc4 Sgc5 Sgc6; have B0c0 := B0.cell 0; have B0c1 := B0.cell 1; have B0c2 := B0.cell 2; have B0c3 := B0.cell 3; have B0c4 := B0.cell 4; have B0c5 := B0.cell 5; have B0c6 := B0.cell 6; have Sgc0 := Sg.cell 0; have Sgc1 := Sg.cell 1; have Sgc2 := Sg.cell 2; have Sgc3 := Sg.cell 3; have Sgc4 := Sg.cell 4; have Sgc5 := Sg.cell 5; have Sgc6 := Sg.cell 6; simp at B0c0 B0c1 B0c2 B0c3 B0c4 B0c5 B0c6 Sgc0 Sgc1 Sgc2 Sgc3 Sgc4 Sgc5 Sgc6; (with_reducible refine (ints_self Agd Abd cgd cbd y4 _ (own_rd Ogd) (own_rd Obd) (by omega)).mono ?_); rintro e w10 ⟨rfl, h10⟩; replace Oba := own_past Oba h10; replace Obb := own_past Obb h10; replace Obc := own_past Obc h10; replace Obd := own_past Obd h10; replace Obe := own_past Obe h10; replace Oga := own_past Oga h10; replace Ogb := own_past Ogb h10; replace Ogc := own_past Ogc h10; replace Ogd := own_past Ogd h10; replace Oge := own_past Oge h10; replace B0 := B0.past h10; replace Sg := Sg.past h10; replace Hb := Lib.hid (thenB Hb.out h10); have t14 : w9.heap.size ≤ w10.heap.size := h10.size; clear h10; clear B0c0 B0c1 B0c2 B0c3 B0c4 B0c5 B0c6 Sgc0 Sgc1 Sgc2 Sgc3 Sgc4 Sgc5 Sgc6; have B0c0 := B0.cell 0; have B0c1 := B0.cell 1; have B0c2 := B0.cell 2; have B0c3 := B0.cell 3; have B0c4 := B0.cell 4; have B0c5 := B0.cell 5; have B0c6 := B0.cell 6; have Sgc0 := Sg.cell 0; have Sgc1 := Sg.cell 1; have Sgc2 := Sg.cell 2; have Sgc3 := Sg.cell 3; have Sgc4 := Sg.cell 4; have Sgc5 := Sg.cell 5; have Sgc6 := Sg.cell 6; simp at B0c0 B0c1 B0c2 B0c3 B0c4 B0c5 B0c6 Sgc0 Sgc1 Sgc2 Sgc3 Sgc4 Sgc5 Sgc6)
            | (go_at_call 16; clear B0c0 B0c1 B0c2 B0c3 B0c4 B0c5 B0c6 Sgc0 Sgc1 Sgc2 Sgc3 Sgc4 Sgc5 Sgc6; have B0c0 := B0.cell 0; have B0c1 := B0.cell 1; have B0c2 := B0.cell 2; have B0c3 := B0.cell 3; have B0c4 := B0.cell 4; have B0c5 := B0.cell 5; have B0c6 := B0.cell 6; have Sgc0 := Sg.cell 0; have Sgc1 := Sg.cell 1; have Sgc2 := Sg.cell 2; have Sgc3 := Sg.cell 3; have Sgc4 := Sg.cell 4; have Sgc5 := Sg.cell 5; have Sgc6 := Sg.cell 6; simp at B0c0 B0c1 B0c2 B0c3 B0c4 B0c5 B0c6 Sgc0 Sgc1 Sgc2 Sgc3 Sgc4 Sgc5 Sgc6; (with_reducible refine (ints_self Age Abe cge cbe y5 _ (own_rd Oge) (own_rd Obe) (by omega)).mono ?_); rintro e w11 ⟨rfl, h11⟩; replace Oba := own_past Oba h11; replace Obb := own_past Obb h11; replace Obc := own_past Obc h11; replace Obd := own_past Obd h11; replace Obe := own_past Obe h11; replace Oga := own_past Oga h11; replace Ogb := own_past Ogb h11; replace Ogc := own_past Ogc h11; replace Ogd := own_past Ogd h11; replace Oge := own_past Oge h11; replace B0 := B0.past h11; replace Sg := Sg.past h11; replace Hb := Lib.hid (thenB Hb.out h11); have t15 : w10.heap.size ≤ w11.heap.size := h11.size; clear h11; clear B0c0 B0c1 B0c2 B0c3 B0c4 B0c5 B0c6 Sgc0 Sgc1 Sgc2 Sgc3 Sgc4 Sgc5 Sgc6; have B0c0 := B0.cell 0; have B0c1 := B0.cell 1; have B0c2 := B0.cell 2; have B0c3 := B0.cell 3; have B0c4 := B0.cell 4; have B0c5 := B0.cell 5; have B0c6 := B0.cell 6; have Sgc0 := Sg.cell 0; have Sgc1 := Sg.cell 1; have Sgc2 := Sg.cell 2; have Sgc3 := Sg.cell 3; have Sgc4 := Sg.cell 4; have Sgc5 := Sg.cell 5; have Sgc6 := Sg.cell 6; simp at B0c0 B0c1 B0c2 B0c3 B0c4 B0c5 B0c6 Sgc0 Sgc1 Sgc2 Sgc3 Sgc4 Sgc5 Sgc6)
            | (go_at_call 20; clear B0c0 B0c1 B0c2 B0c3 B0c4 B0c5 B0c6 Sgc0 Sgc1 Sgc2 Sgc3 Sgc4 Sgc5 Sgc6; have B0c0 := B0.cell 0; have B0c1 := B0.cell 1; have B0c2 := B0.cell 2; have B0c3 := B0.cell 3; have B0c4 := B0.cell 4; have B0c5 := B0.cell 5; have B0c6 := B0.cell 6; have Sgc0 := Sg.cell 0; have Sgc1 := Sg.cell 1; have Sgc2 := Sg.cell 2; have Sgc3 := Sg.cell 3; have Sgc4 := Sg.cell 4; have Sgc5 := Sg.cell 5; have Sgc6 := Sg.cell 6; simp at B0c0 B0c1 B0c2 B0c3 B0c4 B0c5 B0c6 Sgc0 Sgc1 Sgc2 Sgc3 Sgc4 Sgc5 Sgc6; (with_reducible refine (HFM.out _ Aga cga (own_rd Oga) HC1.out).mono ?_); rintro e w12 ⟨rfl, h12⟩; replace Oba := own_past Oba h12; replace Obb := own_past Obb h12; replace Obc := own_past Obc h12; replace Obd := own_past Obd h12; replace Obe := own_past Obe h12; replace Oga := own_past Oga h12; replace Ogb := own_past Ogb h12; replace Ogc := own_past Ogc h12; replace Ogd := own_past Ogd h12; replace Oge := own_past Oge h12; replace B0 := B0.past h12; replace Sg := Sg.past h12; replace Hb := Lib.hid (thenB Hb.out h12); have t16 : w11.heap.size ≤ w12.heap.size := h12.size; clear h12; clear B0c0 B0c1 B0c2 B0c3 B0c4 B0c5 B0c6 Sgc0 Sgc1 Sgc2 Sgc3 Sgc4 Sgc5 Sgc6; have B0c0 := B0.cell 0; have B0c1 := B0.cell 1; have B0c2 := B0.cell 2; have B0c3 := B0.cell 3; have B0c4 := B0.cell 4; have B0c5 := B0.cell 5; have B0c6 := B0.cell 6; have Sgc0 := Sg.cell 0; have Sgc1 := Sg.cell 1; have Sgc2 := Sg.cell 2; have Sgc3 := Sg.cell 3; have Sgc4 := Sg.cell 4; have Sgc5 := Sg.cell 5; have Sgc6 := Sg.cell 6; simp at B0c0 B0c1 B0c2 B0c3 B0c4 B0c5 B0c6 Sgc0 Sgc1 Sgc2 Sgc3 Sgc4 Sgc5 Sgc6)
            | (go_at_call 20; clear B0c0 B0c1 B0c2 B0c3 B0c4 B0c5 B0c6 Sgc0 Sgc1 Sgc2 Sgc3 Sgc4 Sgc5 Sgc6; have B0c0 := B0.cell 0; have B0c1 := B0.cell 1; have B0c2 := B0.cell 2; have B0c3 := B0.cell 3; have B0c4 := B0.cell 4; have B0c5 := B0.cell 5; have B0c6 := B0.cell 6; have Sgc0 := Sg.cell 0; have Sgc1 := Sg.cell 1; have Sgc2 := Sg.cell 2; have Sgc3 := Sg.cell 3; have Sgc4 := Sg.cell 4; have Sgc5 := Sg.cell 5; have Sgc6 := Sg.cell 6; simp at B0c0 B0c1 B0c2 B0c3 B0c4 B0c5 B0c6 Sgc0 Sgc1 Sgc2 Sgc3 Sgc4 Sgc5 Sgc6; (with_reducible refine (HFM.out _ Aba cba (own_rd Oba) HC2.out).mono ?_); rintro e w13 ⟨rfl, h13⟩; replace Oba := own_past Oba h13; replace Obb := own_past Obb h13; replace Obc := own_past Obc h13; replace Obd := own_past Obd h13; replace Obe := own_past Obe h13; replace Oga := own_past Oga h13; replace Ogb := own_past Ogb h13; replace Ogc := own_past Ogc h13; replace Ogd := own_past Ogd h13; replace Oge := own_past Oge h13; replace B0 := B0.past h13; replace Sg := Sg.past h13; replace Hb := Lib.hid (thenB Hb.out h13); have t17 : w12.heap.size ≤ w13.heap.size := h13.size; clear h13; clear B0c0 B0c1 B0c2 B0c3 B0c4 B0c5 B0c6 Sgc0 Sgc1 Sgc2 Sgc3 Sgc4 Sgc5 Sgc6; have B0c0 := B0.cell 0; have B0c1 := B0.cell 1; have B0c2 := B0.cell 2; have B0c3 := B0.cell 3; have B0c4 := B0.cell 4; have B0c5 := B0.cell 5; have B0c6 := B0.cell 6; have Sgc0 := Sg.cell 0; have Sgc1 := Sg.cell 1; have Sgc2 := Sg.cell 2; have Sgc3 := Sg.cell 3; have Sgc4 := Sg.cell 4; have Sgc5 := Sg.cell 5; have Sgc6 := Sg.cell 6; simp at B0c0 B0c1 B0c2 B0c3 B0c4 B0c5 B0c6 Sgc0 Sgc1 Sgc2 Sgc3 Sgc4 Sgc5 Sgc6))
        go_wp2_with fail
        go_ret
        exact ⟨rfl, Hb.out⟩
set_option maxRecDepth 100000 in
theorem lifted (os : Os) (started : os.Started) (H : Type) (enc : TypeId × Value → H) :
    ReturnsInHanded {} Tryz.checked os 4 .any (fun w args => (Rows.fnBenchKeepsSpec.pre enc Tryz.prog Tryz.f4 [] false w args ∧ laidMetH Tryz.prog Rows.fnBenchKeepsRow.laid w) ∧ sizedMet enc Tryz.prog Tryz.f4 (OpenSpec.ofChange Rows.fnBenchKeepsSpec) false w args) (Rows.fnBenchKeepsSpec.post enc Tryz.prog Tryz.f4 false true false false) := by
  refine returnsInHanded_of_change_and (C := Tryz.checked) (X := fun w _ => laidMetH Tryz.prog Rows.fnBenchKeepsRow.laid w) (fun _ _ _ hh h => h.of_heap hh) own started (by kernel_rfl) Tryz.func4
    (ChangeSpec.witness_shaped (enc := enc) (C := Tryz.checked) (os := os) (X := fun w _ => laidMetH Tryz.prog Rows.fnBenchKeepsRow.laid w) false (World.laidAll Tryz.prog os Rows.fnBenchKeepsRow.laid) #[.slice none 0 0] 8 (World.laidAll_os _ _ _)
      (World.shaped_of_ZipB (by kernel_rfl) (by kernel_rfl)) (by kernel_rfl) (by kernel_rfl) (by kernel_rfl)
      (by rw [MakeChecks.laidMetH_plain _ _ _ (by kernel_rfl)]; exact laidMet_laidAll _ (by kernel_rfl) (by kernel_rfl))) ?_
  intro W base args ds gs before hval0 hW hcnd _ hL _
  have hval : ∀ (j : Nat) t v, Tryz.f4.params[j]? = some t → args[j]? = some v → Value.okWide Tryz.prog W .any base t v := hval0
  have hW' := hW
  obtain ⟨p, q, hA0, hV, rfl, hfz, hnd⟩ := hW
  have hA : DataW.TrodAll enc Tryz.prog W 0 (fun _ => true) true Tryz.f4.params.toList args.toList ds p := hA0
  rw [Tryz.params4] at hA hval
  obtain ⟨v0, vs0, d0, ds0, p0, q0, hargs, rfl, rfl, h0, g0⟩ := trodAll_cons hA
  obtain ⟨rfl, rfl, rfl⟩ := trodAll_nil g0
  obtain rfl : args = #[v0] := by cases args; simp_all
  obtain ⟨rfl, rfl⟩ := trodVars_none hV
  have k0 := h0
  have lt0 : ∀ x ∈ p0, x.block < W.heap.size := by obtain ⟨m, hm⟩ := k0; exact DataW.trod_lt m _ _ _ hm
  obtain ⟨A0, z0, c0, rfl, l0, m0, r0⟩ := arg_bytes Tryz.underlying22 Tryz.underlying5 (by kernel_rfl) (hval 0 22 v0 rfl rfl) h0
  clear hA0 hval0
  refine (walkw W A0 z0 c0 l0 m0 r0).mono fun e W' ⟨he, bel⟩ => ?_
  subst he
  exact ⟨_, rfl, _, _, _, [], _, [], hW', trodAll_mk1 (shut_bool Tryz.underlying4 _), (trodAll_cons_mk (Below.trod laidOut (by kernel_rfl) (of_decide_eq_true (by kernel_rfl)) k0 bel lt0) trodAll_mk0), rfl, bel.frame _, fun h => by cases h⟩
theorem over : Rows.fnBenchKeepsRow.holds Tryz.pinned (OpenSpec.ofChange Rows.fnBenchKeepsSpec) :=
  OpenClaim.holds_of_wide 4 Tryz.f4 rfl rfl rfl rfl rfl rfl rfl ⟨rfl, rfl, rfl, rfl, rfl⟩ rfl rfl rfl rfl rfl (by kernel_rfl) Tryz.func4 (by kernel_rfl)
    (of_decide_eq_true (by kernel_rfl)) (by unfold Func.isWrapper; first | (rw [if_pos (by decide +kernel)]; kernel_rfl) | (rw [if_neg (by decide +kernel)]; exact ⟨rfl, rfl⟩))
    (fun os started H enc _ => lifted os started H enc)
theorem proved : Rows.FnBenchKeepsCardSaid :=
  Claim7.holds_tied_plain_at .later [] [.data, .pinned] true (true, "1e1d051e5047a546fec0260843cf2203a02e44aa68992d1d67ab16c862c3e664") false over (fun _ h => by cases h) (by kernel_rfl) (fun _ h => by cases h) fnBenchKeeps_row_tie rfl ⟨rfl, rfl⟩ (by kernel_rfl) rfl
    (fun f fn hf hfn => by
      obtain rfl : f = 4 := Option.some.inj ((show Tryz.prog.funcNamed "loop.example/g03228/laws.FnBenchKeeps" = some 4 by kernel_rfl).symm.trans hf) |>.symm
      obtain rfl : fn = Tryz.f4 := (Option.some.inj (Tryz.func4.symm.trans hfn)).symm
      exact ⟨by kernel_rfl, fun j t ht => by
        rw [Tryz.params4] at ht
        have hm : t ∈ [22] := by simpa using Array.mem_of_getElem? ht
        have hall : ([22].all fun u => !Tryz.prog.wantsStandIn u) = true := by kernel_rfl
        exact (show Tryz.prog.wantsStandIn t = false by simpa using List.all_eq_true.1 hall t hm)⟩)
    (by kernel_rfl)

end Go.Proofs.YtgkijkenbjjnmaaGreatDoor.benchKeepsLaw
