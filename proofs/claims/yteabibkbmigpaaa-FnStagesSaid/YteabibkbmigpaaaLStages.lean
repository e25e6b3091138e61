/- The carries of each stage add up to what the stage before it has, less its own rests; they combine to the outputs, which stay between their limits. No condition. -/
import Derived.Test.YteabibkbmigpaaaLawAcc
import Derived.Test.YteabibkbmigpaaaPRun4
import Derived.IntWalk
namespace Go.Proofs.Yteabibkbmigpaaa.stages
open Go.ChangeShapes Go.WideShapes Go.ChangeAt Go.RowKit
set_option linter.unusedVariables false
set_option linter.unusedSimpArgs false
set_option maxRecDepth 100000 in
set_option maxHeartbeats 4000000 in
theorem walkw (w : World) (A0 : Option Addr) (n0 c0 : Nat) (l0 : n0 ≤ c0) (m0 : c0 ≤ maxLen) (r0 : RdB w w.heap.size A0 n0) :
    Calls Try.prog 3 #[.slice A0 n0 c0] w fun e w' => e = .returned (.bool true) ∧ Below w.heap.size w w' := by
  unfold maxLen at m0
  by_cases hn : n0 ≤ 1048576
  case neg =>
    have hx : 1048576 < n0 := by omega
    clear hn
    go_enter Try.func3, Try.ntmps3
    go_wp2
    go_ret
    exact ⟨rfl, Below.refl _ _⟩
  have Hb : Hid (Below w.heap.size w w) := Below.refl _ _
  go_enter Try.func3, Try.ntmps3
  go_wp2_with fail
  refine (MakeAccumulator_any _ _ _ _ (r0.past Hb.out) (by omega)).mono ?_
  rintro e w1 ⟨o, m, rfl, o1, o2, m1, m2, h1⟩
  replace Hb := Lib.hid (thenB Hb.out h1)
  have t1 : w.heap.size ≤ w1.heap.size := h1.size
  clear h1
  have bx : Below w1.heap.size w1 (w1.alloc (.cells #[.int .i64 o, .int .i64 m] 24)) := (Below.refl _ _).alloc (Nat.le_refl _) _
  have B0 := Blk.new w1 24 #[.int .i64 o, .int .i64 m]
  have VB0 : w1.heap.size < (w1.alloc (.cells #[.int .i64 o, .int .i64 m] 24)).heap.size := by simp
  replace Hb := Lib.hid (thenB Hb.out bx)
  clear bx
  have bx : Below (w1.alloc (.cells #[.int .i64 o, .int .i64 m] 24)).heap.size (w1.alloc (.cells #[.int .i64 o, .int .i64 m] 24)) (w1.alloc (.cells #[.int .i64 o, .int .i64 m] 24)).drew := (Below.refl _ _).drew
  replace B0 := B0.past bx
  replace Hb := Lib.hid (thenB Hb.out bx)
  clear bx
  have t3 : (w1.alloc (.cells #[.int .i64 o, .int .i64 m] 24)).heap.size ≤ (w1.alloc (.cells #[.int .i64 o, .int .i64 m] 24)).drew.heap.size := Nat.le_refl _
  have B0c0 := B0.cell 0
  have B0c1 := B0.cell 1
  simp at B0c0 B0c1
  go_wp2_with fail
  go_region_held3 (fun w' => w'.cell? ⟨w1.heap.size, 0, none⟩ = some (.int .i64 o) ∧ w'.cell? ⟨w1.heap.size, 1, none⟩ = some (.int .i64 m)) (first | go_keep)
    (first
      | (go_at_call 17; clear B0c0 B0c1; have B0c0 := B0.cell 0; have B0c1 := B0.cell 1; simp at B0c0 B0c1; refine (fresh_any _ _ _ _ _ (r0.past Hb.out) (by omega) (by omega) (by omega)).mono ?_; rintro e w2 ⟨Af, cf, nf, rfl, hnf, Rf, h2⟩; replace B0 := B0.past h2; replace Hb := Lib.hid (thenB Hb.out h2); have t4 : (w1.alloc (.cells #[.int .i64 o, .int .i64 m] 24)).drew.heap.size ≤ w2.heap.size := h2.size; clear h2; clear B0c0 B0c1; have B0c0 := B0.cell 0; have B0c1 := B0.cell 1; simp at B0c0 B0c1)
      | (go_at_call 16; clear B0c0 B0c1; have B0c0 := B0.cell 0; have B0c1 := B0.cell 1; simp at B0c0 B0c1; refine (MakeRests_any _ _ _ _ _ _ Rf (by omega) (by omega) (by omega) (by omega)).mono ?_; rintro e w3 ⟨As, cs, s, rfl, Hs, Os, h3⟩; replace B0 := B0.past h3; replace Hb := Lib.hid (thenB Hb.out h3); replace Rf := Rf.past h3; have t5 : w2.heap.size ≤ w3.heap.size := h3.size; have Ls := own_lo Os; have Us := own_hi Os; clear h3; have Hhs := Lib.hid Hs; clear Hs; clear Rf; clear B0c0 B0c1; have B0c0 := B0.cell 0; have B0c1 := B0.cell 1; simp at B0c0 B0c1))
  obtain ⟨hsl, hsr⟩ := Hhs.out
  clear Hhs
  rw [hsl]
  have Hsl := Lib.hid hsl
  clear hsl
  have Hsr := Lib.hid hsr
  clear hsr
  have bx : Below w3.heap.size w3 w3.drew := (Below.refl _ _).drew
  replace Os := own_past Os bx
  replace B0 := B0.past bx
  replace Hb := Lib.hid (thenB Hb.out bx)
  clear bx
  have t6 : w3.heap.size ≤ w3.drew.heap.size := Nat.le_refl _
  clear B0c0 B0c1
  have B0c0 := B0.cell 0
  have B0c1 := B0.cell 1
  simp at B0c0 B0c1
  go_wp2_with fail
  go_region_held3 (fun w' => w'.cell? ⟨w1.heap.size, 0, none⟩ = some (.int .i64 o) ∧ w'.cell? ⟨w1.heap.size, 1, none⟩ = some (.int .i64 m)) (first | go_keep)
    (first
      | (go_at_call 17; clear B0c0 B0c1; have B0c0 := B0.cell 0; have B0c1 := B0.cell 1; simp at B0c0 B0c1; refine (fresh_any _ _ _ _ _ (r0.past Hb.out) (by omega) (by omega) (by omega)).mono ?_; rintro e w4 ⟨Af, cf, nf, rfl, hnf, Rf, h4⟩; replace Os := own_past Os h4; replace B0 := B0.past h4; replace Hb := Lib.hid (thenB Hb.out h4); have t7 : w3.drew.heap.size ≤ w4.heap.size := h4.size; clear h4; clear B0c0 B0c1; have B0c0 := B0.cell 0; have B0c1 := B0.cell 1; simp at B0c0 B0c1)
      | (go_at_call 18; clear B0c0 B0c1; have B0c0 := B0.cell 0; have B0c1 := B0.cell 1; simp at B0c0 B0c1; refine (MakeInputs_any _ _ _ _ _ _ _ Rf (by omega) (by omega) (by omega) (by omega) (by omega)).mono ?_; rintro e w5 ⟨Ax, cx, x, rfl, Hx, Ox, h5⟩; replace Os := own_past Os h5; replace B0 := B0.past h5; replace Hb := Lib.hid (thenB Hb.out h5); replace Rf := Rf.past h5; have t8 : w4.heap.size ≤ w5.heap.size := h5.size; have Lx := own_lo Ox; have Ux := own_hi Ox; clear h5; have Hhx := Lib.hid Hx; clear Hx; clear Rf; clear B0c0 B0c1; have B0c0 := B0.cell 0; have B0c1 := B0.cell 1; simp at B0c0 B0c1))
  obtain ⟨hxlx, hxrx⟩ := Hhx.out
  clear Hhx
  have Hxrx := Lib.hid hxrx
  clear hxrx
  clear B0c0 B0c1
  have B0c0 := B0.cell 0
  have B0c1 := B0.cell 1
  simp at B0c0 B0c1
  go_wp2_with fail
  refine (run_yes As o x.length m cs s Ax cx x _ (own_rd Os) (own_rd Ox) Hsl.out rfl Hsr.out o1 (by omega) m1 (by omega) Hxrx.out (by omega)).mono ?_
  rintro e w6 ⟨Ac0, cc0, rc, Ac1, cc1, Ac2, cc2, rfl, hrc, hec, Mc0, Oc1, Oc2, h6⟩
  replace Os := own_past Os h6
  replace Ox := own_past Ox h6
  replace B0 := B0.past h6
  replace Hb := Lib.hid (thenB Hb.out h6)
  have t9 : w5.heap.size ≤ w6.heap.size := h6.size
  have Lc1 := own_lo Oc1
  have Uc1 := own_hi Oc1
  have Lc2 := own_lo Oc2
  have Uc2 := own_hi Oc2
  have Lc0 := Mc0.los
  have Uc0 := Mc0.his
  clear h6
  have Hrc := Lib.hid hrc
  clear hrc
  have Hec := Lib.hid hec
  clear hec
  have hel := (stX_length m s x x.length).trans Hsl.out
  have her := stX_rests m1 Hsr.out Hxrx.out x.length
  have hcall := fun W h => specIsRests_any o m Ac2 cc2 (stX m s x x.length) W h (by rw [hel]; omega)
  rw [restsOk_of hel her o1 (by omega) m1 (by omega), hel] at hcall
  have Hc := Lib.hid hcall
  clear hcall
  have Hel := Lib.hid hel
  clear hel
  have Her := Lib.hid her
  clear her
  have t0 : ((o : Int) != (o : Int)) = false := by simp
  have t1 : ((x.length : Int) != (x.length : Int)) = false := by simp
  clear B0c0 B0c1
  have B0c0 := B0.cell 0
  have B0c1 := B0.cell 1
  simp at B0c0 B0c1
  go_wp2_with fail
  refine (Hc.out _ (own_rd Oc2)).mono ?_
  rintro e w7 ⟨rfl, h7⟩
  replace Os := own_past Os h7
  replace Ox := own_past Ox h7
  replace Oc1 := own_past Oc1 h7
  replace Oc2 := own_past Oc2 h7
  replace B0 := B0.past h7
  replace Hb := Lib.hid (thenB Hb.out h7)
  replace Mc0 := (Mc0).past h7
  have t10 : w6.heap.size ≤ w7.heap.size := h7.size
  clear h7
  clear Hc
  have hsl2 : s.length = o := Hsl.out
  have hcr := combine_rows m1 Hsr.out Hxrx.out (by omega) (by omega) (by omega : x.length ≤ 1000)
  rw [Hsl.out] at hcr
  clear hsl2
  have hrl : ∀ r ∈ rc, r.xs.length ≤ 1048576 := fun r hr => by have : r.xs ∈ lists rc := by { simp only [lists, List.mem_map]; exact ⟨r, hr, rfl⟩ }; rw [Hec.out] at this; have := cRows_mem this; omega
  have hcall := fun W h => implCombineCarries_any Ac0 cc0 rc W h hrl (by rw [Hrc.out]; omega)
  rw [Hec.out, hcr, Hrc.out] at hcall
  have hYl := out_len (m := m) (xs := x) s Hsl.out
  have hYb := out_bd Hsl.out o1 o2 m1 Hsr.out Hxrx.out
  obtain ⟨Y, hY⟩ : ∃ Y, Y = combTo x.length (cRows m s x o x.length) o := ⟨_, rfl⟩
  rw [← hY] at hcall hYl hYb Oc1
  clear hY hcr hrl
  have Hc := Lib.hid hcall
  clear hcall
  have HYl := Lib.hid hYl
  clear hYl
  have HYb := Lib.hid hYb
  clear hYb
  clear B0c0 B0c1
  have B0c0 := B0.cell 0
  have B0c1 := B0.cell 1
  simp at B0c0 B0c1
  go_wp2_with fail
  refine (Hc.out _ Mc0.rdm).mono ?_
  rintro e w8 ⟨Az, cz, rfl, Oz, h8⟩
  replace Os := own_past Os h8
  replace Ox := own_past Ox h8
  replace Oc1 := own_past Oc1 h8
  replace Oc2 := own_past Oc2 h8
  replace B0 := B0.past h8
  replace Hb := Lib.hid (thenB Hb.out h8)
  replace Mc0 := (Mc0).past h8
  have t11 : w7.heap.size ≤ w8.heap.size := h8.size
  have Lz := own_lo Oz
  have Uz := own_hi Oz
  clear h8
  clear Hc
  rw [show (Y, true).1.length = x.length from HYl.out]
  have hcall := fun W => implLevelsOf_any o m W
  have hlv : levels o m = levs o := by simp only [levels, show accOk o m = true by simp only [accOk, inB_true (show (1 : Int) ≤ o by omega) (show (o : Int) ≤ 6 by omega), inB_true m1 (show m ≤ 1048576 by omega), Bool.and_self], if_true, Int.toNat_natCast]
  rw [hlv] at hcall
  have Hc := Lib.hid hcall
  clear hcall
  clear hlv
  clear B0c0 B0c1
  have B0c0 := B0.cell 0
  have B0c1 := B0.cell 1
  simp at B0c0 B0c1
  go_wp2_with fail
  refine (Hc.out _).mono ?_
  rintro e w9 ⟨rfl, h9⟩
  replace Os := own_past Os h9
  replace Ox := own_past Ox h9
  replace Oc1 := own_past Oc1 h9
  replace Oc2 := own_past Oc2 h9
  replace Oz := own_past Oz h9
  replace B0 := B0.past h9
  replace Hb := Lib.hid (thenB Hb.out h9)
  replace Mc0 := (Mc0).past h9
  have t12 : w8.heap.size ≤ w9.heap.size := h9.size
  clear h9
  clear Hc
  have hs0 : 0 < s.length := by rw [Hsl.out]; omega
  have hsum := stage0_sum (m := m) (x := x) hs0
  have hbits : ∀ y ∈ crow m s x 0 x.length, 0 ≤ y ∧ y ≤ 1 := fun y hy => wordOk_mem (crow_word m1 Hsr.out Hxrx.out 0 x.length (by omega)) y hy
  have hsb := bits_sum hbits
  rw [crow_length] at hsb
  have hls : seqOk (crow m s x 0 x.length) = true := wordOk_seqOk (crow_word m1 Hsr.out Hxrx.out 0 x.length (by omega))
  have hll := crow_length m s x 0 x.length
  have hml : rc.length = o := Hrc.out
  have hjr : 0 < rc.length := by omega
  obtain ⟨am, rfl, hab, qm⟩ := Mc0.rdm.at_ hjr
  have d1 : w9.cell? (am.add 0) = some (.slice rc[0].A rc[0].xs.length rc[0].c) := qm 0 rc[0] (List.getElem?_eq_getElem hjr)
  rw [run_rowLen Hec.out (by omega) hjr] at d1
  have rr := Mc0.rdm.row hjr
  rw [run_row Hec.out (by omega) hjr] at rr
  obtain ⟨r, hre⟩ : ∃ r, r = rc[0] := ⟨_, rfl⟩
  rw [← hre] at d1 rr
  clear hre qm
  obtain ⟨L, hL⟩ : ∃ L, L = crow m s x 0 x.length := ⟨_, rfl⟩
  rw [← hL] at hsum hsb hls hll rr
  clear hbits hL
  have d1' : w9.cell? am = some (.slice r.A x.length r.c) := d1
  have hje : 0 < (stX m s x x.length).length := by rw [Hel.out]; omega
  obtain ⟨gs, rfl, _, _⟩ := own_head Os hs0
  have q1 := own_cell Os hs0
  obtain ⟨ge, rfl, _, _⟩ := own_head Oc2 hje
  have q2 := own_cell Oc2 hje
  have bs := rests_getD m1 Hsr.out 0
  have be := rests_getD m1 Her.out 0
  obtain ⟨sv, hsv⟩ : ∃ v, v = s.getD 0 0 := ⟨_, rfl⟩
  obtain ⟨ev, hev⟩ : ∃ v, v = (stX m s x x.length).getD 0 0 := ⟨_, rfl⟩
  rw [← hsv] at q1 hsum bs
  rw [← hev] at q2 hsum be
  clear hsv hev
  have rx := own_rd Ox
  have lx : seqOk x = true := seq_in Hxrx.out (by omega) (by omega)
  have bx := rests_sum Hxrx.out (by omega)
  have bx2 : x.sum ≤ 3660 := Int.le_trans bx.2 (by have := Int.mul_le_mul_of_nonneg_right (c := (x.length : Int)) m2 (by omega); omega)
  obtain ⟨X, hX⟩ : ∃ X, X = x.sum := ⟨_, rfl⟩
  obtain ⟨S, hS⟩ : ∃ S, S = L.sum := ⟨_, rfl⟩
  rw [← hX] at hsum bx bx2
  rw [← hS] at hsum hsb
  obtain ⟨P, hP⟩ : ∃ P, P = m * S := ⟨_, rfl⟩
  have e1 : m * S = P := hP.symm
  have e2 : X + sv - ev = P := by rw [← hsum]; exact e1
  have i1 : IntKind.i64.wrap P = P := Go.IntWalk.i64_in _ (by omega)
  have i2 : IntKind.i64.wrap (X + sv) = X + sv := Go.IntWalk.i64_in _ (by omega)
  have tp : (P != P) = false := by simp
  have ho0 : (0 : Int) < (o : Int) := by omega
  have ho1 : 0 < o := by omega
  have HYl2 := Lib.hid (own_rd Oz)
  have HYl3 := Lib.hid (own_rd Oc1)
  have aS := hS.symm
  have aX := hX.symm
  clear B0c0 B0c1
  have B0c0 := B0.cell 0
  have B0c1 := B0.cell 1
  simp at B0c0 B0c1
  have HP := Lib.hid (And.intro hP hsum)
  clear hP hsum hS hX hs0 hje hjr hml hsb bx bx2 bs be
  go_wp2_with fail
  go_quiet (first | (go_at_call 23; exact ints_quiet _ _ _ _ x.length Y _ HYl2.out HYl3.out HYl.out (by rw [HYl.out]; omega) _) | (go_at_call 24; first | with_reducible exact sumOf_quiet r.A r.c x.length L _ rr hll hls _ | with_reducible exact sumOf_quiet Ax cx x.length x _ rx rfl lx _))
  go_wp2
  have rs := Lib.hid (own_rd Os)
  have re := Lib.hid (own_rd Oc2)
  have mc := Lib.hid (Mc0.rdm)
  have HB := Lib.hid (B0)
  have HX := Lib.hid (rx)
  have hcs1 : o ≤ cs := by have := (own_cap Os).1; have := Hsl.out; omega
  have hcs2 : cs ≤ 9223372036854775807 := by have := (own_cap Os).2; unfold maxLen at this; omega
  have Hll := Lib.hid (And.intro hll hls)
  have HS := Lib.hid (And.intro aS aX)
  have HE := Lib.hid (And.intro e1 e2)
  clear B0c0 B0c1 B0 rx rr hll hls aS aX e1 e2 i1 i2 tp d1 d1' q1 q2 lx
  clear Os Ls Us Ox Lx Ux Oc1 Lc1 Uc1 Oc2 Lc2 Uc2 Oz Lz Uz
  clear Mc0 Lc0 Uc0
  go_loop [104] (fun i => ∃ j : Nat, j ≤ x.length ∧ i = .int .i64 j) (fun i => x.length - (intOf i).toNat)
  case atStart => exact ⟨0, by omega, rfl⟩
  case round =>
    obtain ⟨j, hj, rfl⟩ := hrel
    by_cases hlt : j < x.length
    · have hjY : j < Y.length := by rw [HYl.out]; exact hlt
      obtain ⟨ad, rfl, _, q⟩ := HYl3.out.at_ hjY
      have k1 := q j hjY
      rw [getD_at hjY] at k1
      have hb := HYb.out _ (List.getElem_mem hjY)
      obtain ⟨v, hv⟩ : ∃ v, v = Y[j] := ⟨_, rfl⟩
      rw [← hv] at k1 hb
      obtain ⟨lo, hlo⟩ : ∃ l, l = (levs o).1 := ⟨_, rfl⟩
      obtain ⟨hi, hhi⟩ : ∃ l, l = (levs o).2 := ⟨_, rfl⟩
      rw [← hlo, ← hhi] at hb ⊢
      clear q hv hlo hhi
      go_wp2
      go_round
      case rel => exact ⟨j + 1, by omega, by go_num⟩
      case measure => simp [intOf]; omega
    · obtain rfl : j = x.length := by omega
      clear hlt hj
      go_wp2_with fail
      go_loopw [16] (fun i wr => ∃ j : Nat, 1 ≤ j ∧ j ≤ o ∧ i = .int .i64 j ∧ Hid (Below w9.heap.size w9 wr)) (fun i _ => o - (intOf i).toNat)
      case atStart => exact ⟨1, by omega, o1, rfl, below_drewN' (Below.refl _ _) _⟩
      case round =>
        obtain ⟨i, hi1, hi, rfl, HW⟩ := hrel
        have BB := HB.out.past HW.out
        have e0 := BB.cell 0
        have e1 := BB.cell 1
        simp at e0 e1
        by_cases hlt : i < o
        · have hbx : Below wr.heap.size wr (wr.alloc (.cells #[.int .i64 i, .int .i64 m] 24)).drew := ((Below.refl _ _).alloc (Nat.le_refl _) _).drew
          have Bb : Blk (wr.alloc (.cells #[.int .i64 i, .int .i64 m] 24)).drew wr.heap.size 24 #[.int .i64 i, .int .i64 m] := Blk.new wr _ _
          have HW2 : Hid (Below w9.heap.size w9 (wr.alloc (.cells #[.int .i64 i, .int .i64 m] 24)).drew) := HW.out.trans (hbx.mono HW.out.size)
          have r1 := Lib.hid (rd_take (rs.out.past HW2.out) i)
          have r2 := Lib.hid (HX.out.past HW2.out)
          have htl : Hid ((s.take i).length = i) := by show _ = _; rw [List.length_take, Hsl.out]; omega
          have p1 : (0 : Int) ≤ (i : Int) := by omega
          have p2 : (i : Int) ≤ (cs : Int) := by omega
          have p3 : (i : Int) ≤ (o : Int) := by omega
          have p4 : (0 : Int) ≤ (o : Int) := by omega
          have p5 : (o : Int) ≤ (cs : Int) := by omega
          clear BB hbx
          go_wp2_with fail
          clear e0 e1
          go_region_held3 (fun w' => w'.cell? ⟨wr.heap.size, 0, none⟩ = some (.int .i64 i) ∧ w'.cell? ⟨wr.heap.size, 1, none⟩ = some (.int .i64 m)) (first | go_keep)
            (first
              | (go_at_call 25; refine (rests_of _ i x.length m cs (s.take i) Ax cx x _ r1.out r2.out htl.out rfl (rests_take Hsr.out i) hi1 (by omega) m1 (by omega) Hxrx.out (by omega)).mono ?_; rintro e wb ⟨Ar, cr, rfl, Or, hb⟩; have Bb2 := Bb.past hb; have k0 := Bb2.cell 0; have k1 := Bb2.cell 1; simp at k0 k1))
          have HW3 := Lib.hid (HW2.out.trans (hb.mono HW2.out.size))
          have rr := own_rd Or
          have hRl : (restL m (s.take i) x x.length).length = x.length := restL_length _ _ _ _
          have hRs : seqOk (restL m (s.take i) x x.length) = true := rest_seq htl.out hi1 m1 (by omega) (rests_take Hsr.out i) Hxrx.out (by omega)
          have his : i < s.length := by rw [Hsl.out]; exact hlt
          have hsum := stages_sum (m := m) (x := x) (s := s) hi1 his
          have hRb := rests_sum (m := m) (xs := restL m (s.take i) x x.length) (fun v hv => by obtain ⟨q, _, rfl⟩ := lst_mem hv; exact rests_getD m1 (stX_rests m1 (rests_take Hsr.out i) Hxrx.out (q + 1)) _) (by omega)
          rw [hRl] at hRb
          have hRb2 : (restL m (s.take i) x x.length).sum ≤ 3660 := Int.le_trans hRb.2 (by have := Int.mul_le_mul_of_nonneg_right (c := (x.length : Int)) m2 (by omega); omega)
          have hbits : ∀ y ∈ crow m s x i x.length, 0 ≤ y ∧ y ≤ 1 := fun y hy => wordOk_mem (crow_word m1 Hsr.out Hxrx.out i x.length (by omega)) y hy
          have hsb := bits_sum hbits
          rw [crow_length] at hsb
          have hls : seqOk (crow m s x i x.length) = true := wordOk_seqOk (crow_word m1 Hsr.out Hxrx.out i x.length (by omega))
          have hll := crow_length m s x i x.length
          have hjr : i < rc.length := by rw [Hrc.out]; exact hlt
          have mm := mc.out.past HW3.out
          obtain ⟨am2, ham, _, qm⟩ := mm.at_ hjr
          obtain rfl := Option.some.inj ham
          have d1 : wb.cell? (am.add i) = some (.slice rc[i].A rc[i].xs.length rc[i].c) := qm i rc[i] (List.getElem?_eq_getElem hjr)
          rw [run_rowLen Hec.out hlt hjr] at d1
          have rq := mm.row hjr
          rw [run_row Hec.out hlt hjr] at rq
          obtain ⟨r3, hre⟩ : ∃ r, r = rc[i] := ⟨_, rfl⟩
          rw [← hre] at d1 rq
          have rs2 := rs.out.past HW3.out
          have re2 := re.out.past HW3.out
          have hje : i < (stX m s x x.length).length := by rw [Hel.out]; exact hlt
          obtain ⟨a5, ha5, _, q5⟩ := rs2.at_ his
          obtain rfl := Option.some.inj ha5
          obtain ⟨a6, ha6, _, q6⟩ := re2.at_ hje
          obtain rfl := Option.some.inj ha6
          have d5 := q5 i his
          have d6 := q6 i hje
          have bs := rests_getD m1 Hsr.out i
          have be := rests_getD m1 Her.out i
          have BB := HB.out.past HW3.out
          have f0 := BB.cell 0
          have f1 := BB.cell 1
          simp at f0 f1
          obtain ⟨sv2, hsv⟩ : ∃ v, v = s.getD i 0 := ⟨_, rfl⟩
          obtain ⟨ev2, hev⟩ : ∃ v, v = (stX m s x x.length).getD i 0 := ⟨_, rfl⟩
          rw [← hsv] at d5 hsum bs
          rw [← hev] at d6 hsum be
          obtain ⟨L2, hL⟩ : ∃ L, L = crow m s x i x.length := ⟨_, rfl⟩
          rw [← hL] at hsum hsb hls hll rq
          obtain ⟨L3, hL3⟩ : ∃ L, L = restL m (s.take i) x x.length := ⟨_, rfl⟩
          rw [← hL3] at hsum hRb hRb2 hRl hRs rr
          obtain ⟨X2, hX⟩ : ∃ X, X = L3.sum := ⟨_, rfl⟩
          obtain ⟨S2, hS⟩ : ∃ S, S = L2.sum := ⟨_, rfl⟩
          rw [← hX] at hsum hRb hRb2
          rw [← hS] at hsum hsb
          obtain ⟨P2, hP⟩ : ∃ P, P = m * S2 := ⟨_, rfl⟩
          have g1 : m * S2 = P2 := hP.symm
          have g2 : X2 + sv2 - ev2 = P2 := by rw [← hsum]; exact g1
          have i1 : IntKind.i64.wrap P2 = P2 := Go.IntWalk.i64_in _ (by omega)
          have i2 : IntKind.i64.wrap (X2 + sv2) = X2 + sv2 := Go.IntWalk.i64_in _ (by omega)
          have tp : (P2 != P2) = false := by simp
          have aS := hS.symm
          have aX := hX.symm
          have p6 : (i : Int) < (o : Int) := by omega
          have d5' : wb.cell? ⟨gs, i, none⟩ = some (.int .i64 sv2) := by rw [← addz gs i]; exact d5
          have d6' : wb.cell? ⟨ge, i, none⟩ = some (.int .i64 ev2) := by rw [← addz ge i]; exact d6
          have HP2 := Lib.hid (And.intro hP hsum)
          clear hP hsum hS hX hsb hRb hRb2 bs be hsv hev hL hL3 hre mm rs2 re2 BB qm q5 q6 hje his hjr hbits Bb2 k0 k1 Or hb Bb p2 p5 d5 d6
          go_wp2_with fail
          go_quiet (first | (go_at_call 24; first | with_reducible exact sumOf_quiet r3.A r3.c x.length L2 _ rq hll hls _ | with_reducible exact sumOf_quiet Ar cr x.length L3 _ rr hRl hRs _))
          go_wp2
          go_roundw
          case rel => exact ⟨i + 1, by omega, by omega, by go_num, below_drewN' HW3.out _⟩
          case measure => simp [intOf]; omega
        · clear BB
          go_wp2
          go_ret
          exact ⟨rfl, Hb.out.trans (HW.out.mono Hb.out.size)⟩
set_option maxRecDepth 100000 in
theorem lifted (os : Os) (started : os.Started) (H : Type) (enc : TypeId × Value → H) :
    ReturnsInHanded {} Try.checked os 3 .any (Rows.fnStagesSpec.pre6 enc Try.prog Try.f3 Rows.fnStagesRow.domain false) (Rows.fnStagesSpec.post enc Try.prog Try.f3 false true false false) := by
  refine returnsInHanded_of_change (C := Try.checked) own started (by kernel_rfl) Try.func3
    (ChangeSpec.witness6 (enc := enc) (C := Try.checked) false ⟨#[], #[.slice none 0 0], []⟩ 8 (by kernel_rfl) (by kernel_rfl) (by kernel_rfl) (by kernel_rfl)) ?_
  intro W base args ds gs before hval0 hW hcnd _
  have hval : ∀ (j : Nat) t v, Try.f3.params[j]? = some t → args[j]? = some v → Value.okWide Try.prog W .any base t v := hval0
  have hW' := hW
  obtain ⟨p, q, hA0, hV, rfl, hfz, hnd⟩ := hW
  have hA : DataW.TrodAll enc Try.prog W 0 (fun _ => true) true Try.f3.params.toList args.toList ds p := hA0
  rw [Try.params3] at hA hval
  obtain ⟨v0, vs0, d0, ds0, p0, q0, hargs, rfl, rfl, h0, g0⟩ := trodAll_cons hA
  obtain ⟨rfl, rfl, rfl⟩ := trodAll_nil g0
  obtain rfl : args = #[v0] := by cases args; simp_all
  obtain ⟨rfl, rfl⟩ := trodVars_none hV
  have k0 := h0
  have lt0 : ∀ x ∈ p0, x.block < W.heap.size := by obtain ⟨m, hm⟩ := k0; exact DataW.trod_lt m _ _ _ hm
  obtain ⟨A0, z0, c0, rfl, l0, m0, r0⟩ := arg_bytes Try.underlying22 Try.underlying5 (by kernel_rfl) (hval 0 22 v0 rfl rfl) h0
  clear hA0 hval0
  refine (walkw W A0 z0 c0 l0 m0 r0).mono fun e W' ⟨he, bel⟩ => ?_
  subst he
  exact ⟨_, rfl, _, _, _, [], _, [], hW', trodAll_mk1 (shut_bool Try.underlying4 _), (trodAll_cons_mk (Below.trod laidOut (by kernel_rfl) (of_decide_eq_true (by kernel_rfl)) k0 bel lt0) trodAll_mk0), rfl, bel.frame _, fun h => by cases h⟩
theorem over : Rows.fnStagesRow.holds Try.pinned (OpenSpec.ofChange Rows.fnStagesSpec) :=
  OpenClaim.holds_of_wide 3 Try.f3 rfl rfl rfl rfl rfl rfl rfl ⟨rfl, rfl, rfl, rfl, rfl⟩ rfl rfl rfl rfl rfl (by kernel_rfl) Try.func3 (by kernel_rfl)
    (of_decide_eq_true (by kernel_rfl)) (by unfold Func.isWrapper; first | (rw [if_pos (by decide +kernel)]; kernel_rfl) | (rw [if_neg (by decide +kernel)]; exact ⟨rfl, rfl⟩))
    (fun os started H enc _ => lifted os started H enc)
theorem proved : Rows.FnStagesSaid := over

end Go.Proofs.Yteabibkbmigpaaa.stages
