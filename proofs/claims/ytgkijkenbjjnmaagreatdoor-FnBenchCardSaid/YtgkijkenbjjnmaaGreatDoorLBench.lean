/- The bench does, line by line, what the functions do: the law FnBench gives true at every input. No condition; what the listed variables of Go's library hold is tied to its text. -/
import Derived.Test.YtgkijkenbjjnmaaGreatDoorBenPk
import Derived.Test.YtgkijkenbjjnmaaGreatDoorMkMod2
import Derived.Test.YtgkijkenbjjnmaaGreatDoorStrL
import Derived.Test.YtgkijkenbjjnmaaGreatDoorArgB
import Derived.Test.YtgkijkenbjjnmaaGreatDoorCards
import Derived.Test.YtgkijkenbjjnmaaGreatDoorTie
import Derived.Lay
import Derived.LaidOnce
import Derived.SevenTiedAt
import Derived.Deep.CutRange
namespace Go.Proofs.YtgkijkenbjjnmaaGreatDoor.benchLaw
open Go.ChangeShapes Go.WideShapes Go.ChangeAt Go.RowKit
set_option linter.unusedVariables false
set_option linter.unusedSimpArgs false
theorem mod_small {l s : Nat} {cs : List Int} (l1 : 2 ≤ l) (l2 : l ≤ 6) (s1 : 1 ≤ s) (s2 : s ≤ 64) (k1 : 1 ≤ cs.length) (k2 : cs.length ≤ 4) (h : ∀ v ∈ cs, -64 ≤ v ∧ v ≤ 64) : modOk l s cs = true := by
  have h1 : cs.all coefB = true := List.all_eq_true.2 fun v hv => by have := h v hv; exact inB_true (by omega) (by omega)
  have h2 : quantOk l s = true := quantOk_of (by omega) (by omega) (by omega) (by omega)
  have h3 : inB cs.length 1 6 = true := inB_true (by omega) (by omega)
  simp [modOk, h1, h2, h3]
theorem ints_self (A A' : Option Addr) (c c' : Nat) (xs : List Int) (w : World) (hx : Rd w w.heap.size A xs) (hy : Rd w w.heap.size A' xs) (hn : xs.length ≤ 1048576) :
    Calls Tryz.prog 16 #[.slice A xs.length c, .slice A' xs.length c'] w fun e w' => e = .returned (.bool true) ∧ Below w.heap.size w w' := by
  have h := ints_any A A' c c' xs xs w hx hy (by omega)
  rw [eqB_self] at h
  exact h
theorem rd_part {w : World} {B : Nat} {A : Option Addr} {x xa : List Int} {h : Nat} (e : x.take h = xa) (r : Rd w B A x) : Rd w B A xa := e ▸ rd_take r h
theorem rd_rest {w : World} {B : Nat} {A Ar : Option Addr} {x xb : List Int} {h c : Nat} (ha : Ar = if c = h then A else Option.map (fun a => a.add h) A) (e : x.drop h = xb) (r : Rd w B A x) (hc : x.length ≤ c) : Rd w B Ar xb := fun h0 => by
  have hl : xb.length = x.length - h := by rw [← e]; exact List.length_drop
  obtain ⟨ad, ea, hb, hq⟩ := r (by omega)
  have hne : ¬ c = h := by omega
  rw [if_neg hne] at ha
  subst ea
  subst ha
  refine ⟨ad.add h, rfl, by rw [block_add]; exact hb, fun j hj => ?_⟩
  have q := hq (h + j) (by omega)
  have e2 : (ad.add h).add j = ad.add (h + j) := Addr.add_add _ _ _
  rw [e2, q, ← e]
  simp [List.getD, List.getElem?_drop]
set_option maxRecDepth 100000 in
set_option maxHeartbeats 2000000 in
theorem walkw (w : World) (A0 : Option Addr) (n0 c0 : Nat) (l0 : n0 ≤ c0) (m0 : c0 ≤ maxLen) (r0 : RdB w w.heap.size A0 n0) :
    Calls Tryz.prog 3 #[.slice A0 n0 c0] w fun e w' => e = .returned (.bool true) ∧ Below w.heap.size w w' := by
  unfold maxLen at m0
  by_cases hn : n0 ≤ 1048576
  case neg =>
    have hx : 1048576 < n0 := by omega
    clear hn
    go_enter Tryz.func3, Tryz.ntmps3
    go_wp2
    go_ret
    exact ⟨rfl, Below.refl _ _⟩
  have Hb : Hid (Below w.heap.size w w) := Below.refl _ _
  go_enter Tryz.func3, Tryz.ntmps3
  go_wp2_with fail
  refine (MakeModulator_any _ _ _ _ (r0.past Hb.out) (by omega)).mono ?_
  rintro e w1 ⟨ln, sn, cs, Am, cm, rfl, l1, l2, s1, s2, k1, k2, hcs, Om, h1⟩
  replace Hb := Lib.hid (thenB Hb.out h1)
  have t1 : w.heap.size ≤ w1.heap.size := h1.size
  have Lm := own_lo Om
  have Um := own_hi Om
  clear h1
  have hmod : modOk ln sn cs = true := mod_small l1 l2 s1 s2 k1 k2 hcs
  obtain ⟨l, hl⟩ : ∃ v : Int, v = (ln : Int) := ⟨_, rfl⟩
  obtain ⟨s, hs⟩ : ∃ v : Int, v = (sn : Int) := ⟨_, rfl⟩
  rw [← hl, ← hs] at hmod ⊢
  clear hl hs l1 l2 s1 s2 hcs k1
  have HCm := Lib.hid (own_cap Om)
  have bx : Below w1.heap.size w1 (w1.alloc (.cells #[.int .i64 l, .int .i64 s, .slice Am cs.length cm] 27)) := (Below.refl _ _).alloc (Nat.le_refl _) _
  have B0 := Blk.new w1 27 #[.int .i64 l, .int .i64 s, .slice Am cs.length cm]
  have VB0 : w1.heap.size < (w1.alloc (.cells #[.int .i64 l, .int .i64 s, .slice Am cs.length cm] 27)).heap.size := by simp
  replace Om := own_past Om bx
  replace Hb := Lib.hid (thenB Hb.out bx)
  clear bx
  have B0c0 := B0.cell 0
  have B0c1 := B0.cell 1
  have B0c2 := B0.cell 2
  simp at B0c0 B0c1 B0c2
  go_wp2_with fail
  refine (fresh_any _ _ _ _ _ (r0.past Hb.out) (by omega) (by omega) (by omega)).mono ?_
  rintro e w2 ⟨Af, cf, nf, rfl, hnf, Rf, h2⟩
  replace Om := own_past Om h2
  replace B0 := B0.past h2
  replace Hb := Lib.hid (thenB Hb.out h2)
  have t3 : (w1.alloc (.cells #[.int .i64 l, .int .i64 s, .slice Am cs.length cm] 27)).heap.size ≤ w2.heap.size := h2.size
  clear h2
  clear B0c0 B0c1 B0c2
  have B0c0 := B0.cell 0
  have B0c1 := B0.cell 1
  have B0c2 := B0.cell 2
  simp at B0c0 B0c1 B0c2
  go_wp2_with fail
  refine (at_any _ _ _ _ _ (r0.past Hb.out) (by omega) (by omega) (by omega)).mono ?_
  rintro e w3 ⟨⟨av, rfl, av1, av2⟩, rfl⟩
  clear B0c0 B0c1 B0c2
  have B0c0 := B0.cell 0
  have B0c1 := B0.cell 1
  have B0c2 := B0.cell 2
  simp at B0c0 B0c1 B0c2
  go_wp2_with fail
  refine (MakeSequence_any _ _ _ _ _ _ Rf (by omega) (by omega) (by omega) (by omega) (by omega)).mono ?_
  rintro e w3 ⟨Ax, cx, x, rfl, hpx, Ox, h3⟩
  replace Om := own_past Om h3
  replace B0 := B0.past h3
  replace Hb := Lib.hid (thenB Hb.out h3)
  replace Rf := Rf.past h3
  have t4 : w2.heap.size ≤ w3.heap.size := h3.size
  have Lx := own_lo Ox
  have Ux := own_hi Ox
  clear h3
  clear Rf
  have hxl : x.length ≤ 20 := by have := hpx.1; omega
  have hxs : seqOk x = true := seqOk_of (fun v hv => by have := hpx.2 v hv; omega) (by omega)
  clear hpx
  obtain ⟨h, hh⟩ : ∃ h : Nat, h = x.length / 2 := ⟨_, rfl⟩
  have hh1 : h ≤ x.length := by omega
  obtain ⟨nl, ns, n1, n2, n3, n4, n5, z, N, xa, xb, ry, re, rm, ok, FM, TA, TB, TX, OKB, PK⟩ := bench_pack hmod hxs h hh1
  have HP := Lib.hid PK
  clear PK
  have HCx := Lib.hid (own_cap Ox)
  have cx1 : x.length ≤ cx := HCx.out.1
  have cx2 : cx ≤ 9223372036854775807 := by have := HCx.out.2; unfold maxLen at this; exact this
  have qd : (x.length : Int) / 2 = (h : Int) := by omega
  have qd2 : (x.length : Int).tdiv 2 = (h : Int) := by rw [Int.tdiv_eq_ediv_of_nonneg (by omega)]; exact qd
  clear hmod hxs
  have Hhh := Lib.hid hh
  clear hh
  have Hqd := Lib.hid qd
  clear qd
  have Hqd2 := Lib.hid qd2
  clear qd2
  have bx : Below w3.heap.size w3 w3.drew := (Below.refl _ _).drew
  replace Om := own_past Om bx
  replace Ox := own_past Ox bx
  replace B0 := B0.past bx
  replace Hb := Lib.hid (thenB Hb.out bx)
  clear bx
  have t5 : w3.heap.size ≤ w3.drew.heap.size := Nat.le_refl _
  clear B0c0 B0c1 B0c2
  have B0c0 := B0.cell 0
  have B0c1 := B0.cell 1
  have B0c2 := B0.cell 2
  simp at B0c0 B0c1 B0c2
  go_upto_region 5 with fail
  go_cut [5, 6] from 34 to 40 (fun u5 u6 wx => ∃ g Aba cba Abb cbb Abc cbc Abd cbd Abe cbe, u5 = .pointer (some ⟨g, 0, none⟩) ∧ u6 = .string OKB ∧ w3.drew.heap.size ≤ g ∧ Hid (MT w3.drew g l s Aba cba cs Abb cbb z Abc cbc N Abd cbd N Abe cbe N wx))
  case first =>
    have HW : Hid (Below w3.drew.heap.size w3.drew w3.drew) := Below.refl _ _
    have ba : Below w3.drew.heap.size w3.drew (w3.alloc (.cells #[.int .i64 0, .int .i64 0, .slice none 0 0, .slice none 0 0, .slice none 0 0, .slice none 0 0, .slice none 0 0] 33)).drew := ((Below.refl _ _).alloc (by simp) _)
    have SA : Hid (Blk (w3.alloc (.cells #[.int .i64 0, .int .i64 0, .slice none 0 0, .slice none 0 0, .slice none 0 0, .slice none 0 0, .slice none 0 0] 33)).drew w3.heap.size 33 #[.int .i64 0, .int .i64 0, .slice none 0 0, .slice none 0 0, .slice none 0 0, .slice none 0 0, .slice none 0 0]) := Blk.new w3 33 #[.int .i64 0, .int .i64 0, .slice none 0 0, .slice none 0 0, .slice none 0 0, .slice none 0 0, .slice none 0 0]
    have HWA := Lib.hid ba
    have BA0 := Lib.hid (B0.past ba)
    have OmA := Lib.hid (own_past Om ba)
    have HbA := Lib.hid (thenB Hb.out ba)
    have OxA := Lib.hid (own_past Ox ba)
    have zA : w3.heap.size < (w3.alloc (.cells #[.int .i64 0, .int .i64 0, .slice none 0 0, .slice none 0 0, .slice none 0 0, .slice none 0 0, .slice none 0 0] 33)).drew.heap.size := by simp
    have zA2 : w3.drew.heap.size ≤ w3.heap.size := by simp
    have ca0 := BA0.out.cell 0
    have ca1 := BA0.out.cell 1
    have ca2 := BA0.out.cell 2
    simp at ca0 ca1 ca2
    clear ba
    have nz1 : ¬ (w1.heap.size = w3.heap.size) := by omega
    have nz2 : ¬ (w3.heap.size = w1.heap.size) := by omega
    go_region_held3 (fun w' => w'.cell? ⟨w1.heap.size, 0, none⟩ = some (.int .i64 l) ∧ w'.cell? ⟨w1.heap.size, 1, none⟩ = some (.int .i64 s) ∧ w'.cell? ⟨w1.heap.size, 2, none⟩ = some (.slice Am cs.length cm)) (first | go_keep)
      (first
        | (go_at_call 12; first | (have SX := SA.out; replace HW := HWA; replace B0 := BA0.out; replace Om := OmA.out; replace Ox := OxA.out; replace Hb := HbA; have gX : w3.drew.heap.size ≤ w3.heap.size := zA2; have tA : w3.drew.heap.size ≤ (w3.alloc (.cells #[.int .i64 0, .int .i64 0, .slice none 0 0, .slice none 0 0, .slice none 0 0, .slice none 0 0, .slice none 0 0] 33)).drew.heap.size := (by simp); clear B0c0 B0c1 B0c2; have B0c0 := B0.cell 0; have B0c1 := B0.cell 1; have B0c2 := B0.cell 2; simp at B0c0 B0c1 B0c2; (with_reducible refine (HP.out.new _).mono ?_); rintro e w4 ⟨Ana, cna, Anb, cnb, Anc, cnc, And, cnd, Ane, cne, rfl, Ona, Onb, Onc, Ond, One, h4⟩; replace Om := own_past Om h4; replace Ox := own_past Ox h4; replace B0 := B0.past h4; replace SX := SX.past h4; replace Hb := Lib.hid (thenB Hb.out h4); replace HW := Lib.hid (thenB HW.out h4); have t6 : (w3.alloc (.cells #[.int .i64 0, .int .i64 0, .slice none 0 0, .slice none 0 0, .slice none 0 0, .slice none 0 0, .slice none 0 0] 33)).drew.heap.size ≤ w4.heap.size := h4.size; have Lna := own_lo Ona; have Una := own_hi Ona; have Lnb := own_lo Onb; have Unb := own_hi Onb; have Lnc := own_lo Onc; have Unc := own_hi Onc; have Lnd := own_lo Ond; have Und := own_hi Ond; have Lne := own_lo One; have Une := own_hi One; clear h4; clear B0c0 B0c1 B0c2; have B0c0 := B0.cell 0; have B0c1 := B0.cell 1; have B0c2 := B0.cell 2; simp at B0c0 B0c1 B0c2) | (clear B0c0 B0c1 B0c2; have B0c0 := B0.cell 0; have B0c1 := B0.cell 1; have B0c2 := B0.cell 2; simp at B0c0 B0c1 B0c2; (with_reducible refine (HP.out.new _).mono ?_); rintro e w4 ⟨Ana, cna, Anb, cnb, Anc, cnc, And, cnd, Ane, cne, rfl, Ona, Onb, Onc, Ond, One, h4⟩; replace Om := own_past Om h4; replace Ox := own_past Ox h4; replace B0 := B0.past h4; replace Hb := Lib.hid (thenB Hb.out h4); replace HW := Lib.hid (thenB HW.out h4); have t6 : w3.drew.heap.size ≤ w4.heap.size := h4.size; have Lna := own_lo Ona; have Una := own_hi Ona; have Lnb := own_lo Onb; have Unb := own_hi Onb; have Lnc := own_lo Onc; have Unc := own_hi Onc; have Lnd := own_lo Ond; have Und := own_hi Ond; have Lne := own_lo One; have Une := own_hi One; clear h4; clear B0c0 B0c1 B0c2; have B0c0 := B0.cell 0; have B0c1 := B0.cell 1; have B0c2 := B0.cell 2; simp at B0c0 B0c1 B0c2) | fail)
        | (go_at_call 13; first | (replace SX := SX; clear B0c0 B0c1 B0c2; have B0c0 := B0.cell 0; have B0c1 := B0.cell 1; have B0c2 := B0.cell 2; simp at B0c0 B0c1 B0c2; (with_reducible refine (HP.out.fi _ Am cm (own_rd Om) HCm.out).mono ?_); rintro e w5 ⟨rfl, h5⟩; replace Om := own_past Om h5; replace Ox := own_past Ox h5; replace Ona := own_past Ona h5; replace Onb := own_past Onb h5; replace Onc := own_past Onc h5; replace Ond := own_past Ond h5; replace One := own_past One h5; replace B0 := B0.past h5; replace SX := SX.past h5; replace Hb := Lib.hid (thenB Hb.out h5); replace HW := Lib.hid (thenB HW.out h5); have t7 : w4.heap.size ≤ w5.heap.size := h5.size; clear h5; clear B0c0 B0c1 B0c2; have B0c0 := B0.cell 0; have B0c1 := B0.cell 1; have B0c2 := B0.cell 2; simp at B0c0 B0c1 B0c2) | (clear B0c0 B0c1 B0c2; have B0c0 := B0.cell 0; have B0c1 := B0.cell 1; have B0c2 := B0.cell 2; simp at B0c0 B0c1 B0c2; (with_reducible refine (HP.out.fi _ Am cm (own_rd Om) HCm.out).mono ?_); rintro e w5 ⟨rfl, h5⟩; replace Om := own_past Om h5; replace Ox := own_past Ox h5; replace Ona := own_past Ona h5; replace Onb := own_past Onb h5; replace Onc := own_past Onc h5; replace Ond := own_past Ond h5; replace One := own_past One h5; replace B0 := B0.past h5; replace Hb := Lib.hid (thenB Hb.out h5); replace HW := Lib.hid (thenB HW.out h5); have t7 : w4.heap.size ≤ w5.heap.size := h5.size; clear h5; clear B0c0 B0c1 B0c2; have B0c0 := B0.cell 0; have B0c1 := B0.cell 1; have B0c2 := B0.cell 2; simp at B0c0 B0c1 B0c2) | (have bx : Below w4.heap.size w4 (w4.alloc (.cells #[.int .i64 0, .int .i64 0, .slice none 0 0, .slice none 0 0, .slice none 0 0, .slice none 0 0, .slice none 0 0] 33)) := (Below.refl _ _).alloc (Nat.le_refl _) _; have SX := Blk.new w4 33 #[.int .i64 0, .int .i64 0, .slice none 0 0, .slice none 0 0, .slice none 0 0, .slice none 0 0, .slice none 0 0]; have VSX : w4.heap.size < (w4.alloc (.cells #[.int .i64 0, .int .i64 0, .slice none 0 0, .slice none 0 0, .slice none 0 0, .slice none 0 0, .slice none 0 0] 33)).heap.size := (by simp); replace Om := own_past Om bx; replace Ox := own_past Ox bx; replace Ona := own_past Ona bx; replace Onb := own_past Onb bx; replace Onc := own_past Onc bx; replace Ond := own_past Ond bx; replace One := own_past One bx; replace B0 := B0.past bx; replace Hb := Lib.hid (thenB Hb.out bx); replace HW := Lib.hid (thenB HW.out bx); clear bx; have gX : w3.drew.heap.size ≤ w4.heap.size := (by omega); have nz3 : ¬ (w1.heap.size = w4.heap.size) := (by omega); have nz4 : ¬ (w4.heap.size = w1.heap.size) := (by omega); clear B0c0 B0c1 B0c2; have B0c0 := B0.cell 0; have B0c1 := B0.cell 1; have B0c2 := B0.cell 2; simp at B0c0 B0c1 B0c2; (with_reducible refine (HP.out.fi _ Am cm (own_rd Om) HCm.out).mono ?_); rintro e w5 ⟨rfl, h5⟩; replace Om := own_past Om h5; replace Ox := own_past Ox h5; replace Ona := own_past Ona h5; replace Onb := own_past Onb h5; replace Onc := own_past Onc h5; replace Ond := own_past Ond h5; replace One := own_past One h5; replace B0 := B0.past h5; replace SX := SX.past h5; replace Hb := Lib.hid (thenB Hb.out h5); replace HW := Lib.hid (thenB HW.out h5); have t8 : (w4.alloc (.cells #[.int .i64 0, .int .i64 0, .slice none 0 0, .slice none 0 0, .slice none 0 0, .slice none 0 0, .slice none 0 0] 33)).heap.size ≤ w5.heap.size := h5.size; clear h5; clear B0c0 B0c1 B0c2; have B0c0 := B0.cell 0; have B0c1 := B0.cell 1; have B0c2 := B0.cell 2; simp at B0c0 B0c1 B0c2) | fail)
        | (go_at_call 11; first | (replace SX := SX; have XL := SX.lt; clear B0c0 B0c1 B0c2; have B0c0 := B0.cell 0; have B0c1 := B0.cell 1; have B0c2 := B0.cell 2; simp at B0c0 B0c1 B0c2; (with_reducible refine (HP.out.e1 _ Ana Anb Anc And Ane cna cnb cnc cnd cne (own_rd Ona) (own_rd Onb) (own_rd Onc) (own_rd Ond) (own_rd One)).mono ?_); rintro e w6 ⟨Aba, cba, Abb, cbb, Abc, cbc, Abd, cbd, Abe, cbe, rfl, Oba, Obb, Obc, Obd, Obe, h6⟩; replace Om := own_past Om h6; replace Ox := own_past Ox h6; replace Ona := own_past Ona h6; replace Onb := own_past Onb h6; replace Onc := own_past Onc h6; replace Ond := own_past Ond h6; replace One := own_past One h6; replace B0 := B0.past h6; replace SX := SX.past h6; replace Hb := Lib.hid (thenB Hb.out h6); replace HW := Lib.hid (thenB HW.out h6); have t8 : w5.heap.size ≤ w6.heap.size := h6.size; have Lba := own_lo Oba; have Uba := own_hi Oba; have Lbb := own_lo Obb; have Ubb := own_hi Obb; have Lbc := own_lo Obc; have Ubc := own_hi Obc; have Lbd := own_lo Obd; have Ubd := own_hi Obd; have Lbe := own_lo Obe; have Ube := own_hi Obe; clear h6; clear B0c0 B0c1 B0c2; have B0c0 := B0.cell 0; have B0c1 := B0.cell 1; have B0c2 := B0.cell 2; simp at B0c0 B0c1 B0c2; have xc0 := SX.cell 0; have xf0 := SX.frozen 0; have xc1 := SX.cell 1; have xf1 := SX.frozen 1; have xc2 := SX.cell 2; have xf2 := SX.frozen 2; have xc3 := SX.cell 3; have xf3 := SX.frozen 3; have xc4 := SX.cell 4; have xf4 := SX.frozen 4; have xc5 := SX.cell 5; have xf5 := SX.frozen 5; have xc6 := SX.cell 6; have xf6 := SX.frozen 6; simp at xc0 xc1 xc2 xc3 xc4 xc5 xc6; have M := Lib.hid (mt_store (l := l) (s := s) HW.out SX (own_mono Oba (by omega)) (own_mono Obb (by omega)) (own_mono Obc (by omega)) (own_mono Obd (by omega)) (own_mono Obe (by omega)) (fun a e => Nat.ne_of_gt (Nat.lt_of_lt_of_le XL (Lba a e))) (fun a e => Nat.ne_of_gt (Nat.lt_of_lt_of_le XL (Lbb a e))) (fun a e => Nat.ne_of_gt (Nat.lt_of_lt_of_le XL (Lbc a e))) (fun a e => Nat.ne_of_gt (Nat.lt_of_lt_of_le XL (Lbd a e))) (fun a e => Nat.ne_of_gt (Nat.lt_of_lt_of_le XL (Lbe a e))))) | (clear B0c0 B0c1 B0c2; have B0c0 := B0.cell 0; have B0c1 := B0.cell 1; have B0c2 := B0.cell 2; simp at B0c0 B0c1 B0c2; (with_reducible refine (HP.out.e1 _ Ana Anb Anc And Ane cna cnb cnc cnd cne (own_rd Ona) (own_rd Onb) (own_rd Onc) (own_rd Ond) (own_rd One)).mono ?_); rintro e w6 ⟨Aba, cba, Abb, cbb, Abc, cbc, Abd, cbd, Abe, cbe, rfl, Oba, Obb, Obc, Obd, Obe, h6⟩; replace Om := own_past Om h6; replace Ox := own_past Ox h6; replace Ona := own_past Ona h6; replace Onb := own_past Onb h6; replace Onc := own_past Onc h6; replace Ond := own_past Ond h6; replace One := own_past One h6; replace B0 := B0.past h6; replace Hb := Lib.hid (thenB Hb.out h6); replace HW := Lib.hid (thenB HW.out h6); have t8 : w5.heap.size ≤ w6.heap.size := h6.size; have Lba := own_lo Oba; have Uba := own_hi Oba; have Lbb := own_lo Obb; have Ubb := own_hi Obb; have Lbc := own_lo Obc; have Ubc := own_hi Obc; have Lbd := own_lo Obd; have Ubd := own_hi Obd; have Lbe := own_lo Obe; have Ube := own_hi Obe; clear h6; clear B0c0 B0c1 B0c2; have B0c0 := B0.cell 0; have B0c1 := B0.cell 1; have B0c2 := B0.cell 2; simp at B0c0 B0c1 B0c2; have M := Lib.hid (mt_after (l := l) (s := s) HW.out (own_mono Oba (by omega)) (own_mono Obb (by omega)) (own_mono Obc (by omega)) (own_mono Obd (by omega)) (own_mono Obe (by omega)))) | (have bx : Below w5.heap.size w5 (w5.alloc (.cells #[.int .i64 0, .int .i64 0, .slice none 0 0, .slice none 0 0, .slice none 0 0, .slice none 0 0, .slice none 0 0] 33)) := (Below.refl _ _).alloc (Nat.le_refl _) _; have SX := Blk.new w5 33 #[.int .i64 0, .int .i64 0, .slice none 0 0, .slice none 0 0, .slice none 0 0, .slice none 0 0, .slice none 0 0]; have VSX : w5.heap.size < (w5.alloc (.cells #[.int .i64 0, .int .i64 0, .slice none 0 0, .slice none 0 0, .slice none 0 0, .slice none 0 0, .slice none 0 0] 33)).heap.size := (by simp); replace Om := own_past Om bx; replace Ox := own_past Ox bx; replace Ona := own_past Ona bx; replace Onb := own_past Onb bx; replace Onc := own_past Onc bx; replace Ond := own_past Ond bx; replace One := own_past One bx; replace B0 := B0.past bx; replace Hb := Lib.hid (thenB Hb.out bx); replace HW := Lib.hid (thenB HW.out bx); clear bx; have gX : w3.drew.heap.size ≤ w5.heap.size := (by omega); have nz3 : ¬ (w1.heap.size = w5.heap.size) := (by omega); have nz4 : ¬ (w5.heap.size = w1.heap.size) := (by omega); have XL := SX.lt; clear B0c0 B0c1 B0c2; have B0c0 := B0.cell 0; have B0c1 := B0.cell 1; have B0c2 := B0.cell 2; simp at B0c0 B0c1 B0c2; (with_reducible refine (HP.out.e1 _ Ana Anb Anc And Ane cna cnb cnc cnd cne (own_rd Ona) (own_rd Onb) (own_rd Onc) (own_rd Ond) (own_rd One)).mono ?_); rintro e w6 ⟨Aba, cba, Abb, cbb, Abc, cbc, Abd, cbd, Abe, cbe, rfl, Oba, Obb, Obc, Obd, Obe, h6⟩; replace Om := own_past Om h6; replace Ox := own_past Ox h6; replace Ona := own_past Ona h6; replace Onb := own_past Onb h6; replace Onc := own_past Onc h6; replace Ond := own_past Ond h6; replace One := own_past One h6; replace B0 := B0.past h6; replace SX := SX.past h6; replace Hb := Lib.hid (thenB Hb.out h6); replace HW := Lib.hid (thenB HW.out h6); have t9 : (w5.alloc (.cells #[.int .i64 0, .int .i64 0, .slice none 0 0, .slice none 0 0, .slice none 0 0, .slice none 0 0, .slice none 0 0] 33)).heap.size ≤ w6.heap.size := h6.size; have Lba := own_lo Oba; have Uba := own_hi Oba; have Lbb := own_lo Obb; have Ubb := own_hi Obb; have Lbc := own_lo Obc; have Ubc := own_hi Obc; have Lbd := own_lo Obd; have Ubd := own_hi Obd; have Lbe := own_lo Obe; have Ube := own_hi Obe; clear h6; clear B0c0 B0c1 B0c2; have B0c0 := B0.cell 0; have B0c1 := B0.cell 1; have B0c2 := B0.cell 2; simp at B0c0 B0c1 B0c2; have xc0 := SX.cell 0; have xf0 := SX.frozen 0; have xc1 := SX.cell 1; have xf1 := SX.frozen 1; have xc2 := SX.cell 2; have xf2 := SX.frozen 2; have xc3 := SX.cell 3; have xf3 := SX.frozen 3; have xc4 := SX.cell 4; have xf4 := SX.frozen 4; have xc5 := SX.cell 5; have xf5 := SX.frozen 5; have xc6 := SX.cell 6; have xf6 := SX.frozen 6; simp at xc0 xc1 xc2 xc3 xc4 xc5 xc6; have M := Lib.hid (mt_store (l := l) (s := s) HW.out SX (own_mono Oba (by omega)) (own_mono Obb (by omega)) (own_mono Obc (by omega)) (own_mono Obd (by omega)) (own_mono Obe (by omega)) (fun a e => Nat.ne_of_gt (Nat.lt_of_lt_of_le XL (Lba a e))) (fun a e => Nat.ne_of_gt (Nat.lt_of_lt_of_le XL (Lbb a e))) (fun a e => Nat.ne_of_gt (Nat.lt_of_lt_of_le XL (Lbc a e))) (fun a e => Nat.ne_of_gt (Nat.lt_of_lt_of_le XL (Lbd a e))) (fun a e => Nat.ne_of_gt (Nat.lt_of_lt_of_le XL (Lbe a e))))) | fail)
        | fail)
    all_goals (go_wp2_with fail; go_meet; exact ⟨_, _, _, _, _, _, _, _, _, _, _, rfl, rfl, (by first | omega | (simp; omega)), M⟩)
  case rest =>
  obtain ⟨g, Aba, cba, Abb, cbb, Abc, cbc, Abd, cbd, Abe, cbe, rfl, rfl, hgl, HM⟩ := hcut
  obtain ⟨T, SB, Oba, Obb, Obc, Obd, Obe, Nba, Nbb, Nbc, Nbd, Nbe⟩ := HM.out
  clear HM
  replace Om := own_grown Om T (fun a e e' => by have h1 := Um a e; have h2 := Option.some.inj e'; omega)
  replace Ox := own_grown Ox T (fun a e e' => by have h1 := Ux a e; have h2 := Option.some.inj e'; omega)
  replace B0 := blk_turn B0 T (by omega)
  replace Hb := Lib.hid (turn_past Hb.out T Hb.out.size (by have := Hb.out.size; omega))
  have t6 : w3.drew.heap.size ≤ wc.heap.size := T.size
  clear T
  have VSB7 := SB.lt
  have Lba := own_lo Oba
  have Uba := own_hi Oba
  have Lbb := own_lo Obb
  have Ubb := own_hi Obb
  have Lbc := own_lo Obc
  have Ubc := own_hi Obc
  have Lbd := own_lo Obd
  have Ubd := own_hi Obd
  have Lbe := own_lo Obe
  have Ube := own_hi Obe
  obtain ⟨w4, hwc⟩ : ∃ W, W = wc := ⟨_, rfl⟩
  subst hwc
  have rta : Hid (Rd w4 w4.heap.size Ax xa) := by have r := rd_take (own_rd Ox) h; rw [HP.out.hxa] at r; exact r
  have bx : Below w4.heap.size w4 w4.drew := (Below.refl _ _).drew
  replace Om := own_past Om bx
  replace Ox := own_past Ox bx
  replace Oba := own_past Oba bx
  replace Obb := own_past Obb bx
  replace Obc := own_past Obc bx
  replace Obd := own_past Obd bx
  replace Obe := own_past Obe bx
  replace B0 := B0.past bx
  replace SB := SB.past bx
  replace Hb := Lib.hid (thenB Hb.out bx)
  clear bx
  have t8 : w4.heap.size ≤ w4.drew.heap.size := Nat.le_refl _
  clear B0c0 B0c1 B0c2
  have B0c0 := B0.cell 0
  have B0c1 := B0.cell 1
  have B0c2 := B0.cell 2
  have SBc0 := SB.cell 0
  have SBc1 := SB.cell 1
  have SBc2 := SB.cell 2
  have SBc3 := SB.cell 3
  have SBc4 := SB.cell 4
  have SBc5 := SB.cell 5
  have SBc6 := SB.cell 6
  simp at B0c0 B0c1 B0c2 SBc0 SBc1 SBc2 SBc3 SBc4 SBc5 SBc6
  have f0 := SB.frozen 0
  have f1 := SB.frozen 1
  have f2 := SB.frozen 2
  have f3 := SB.frozen 3
  have f4 := SB.frozen 4
  have f5 := SB.frozen 5
  have f6 := SB.frozen 6
  have sz : (ByteArray.mk #[105, 110, 32]).size + TA.size ≤ 9223372036854775807 := by have h1 : (ByteArray.mk #[105, 110, 32]).size ≤ 10 := (by decide); have h2 := HP.out.sa; omega
  have ad := fun W : World => run_string_add_sum (P := Tryz.prog) W (ByteArray.mk #[105, 110, 32]) TA sz
  have qd := Hqd.out
  have qd2 := Hqd2.out
  have qw : IntKind.i64.wrap (h : Int) = (h : Int) := Go.IntWalk.i64_in _ (by omega)
  have qb : h ≤ cx := by omega
  clear sz
  go_upto_region 6 with fail
  go_cut [7] from 41 to 52 (fun u wx => ∃ Aca cca Acb ccb Acc ccc Acd ccd Ace cce, u = .string OKB ∧ Hid (MT w4.drew g l s Aca cca cs Acb ccb z Acc ccc xa Acd ccd N Ace cce N wx))
  case first =>
    have HW : Hid (Below w4.drew.heap.size w4.drew w4.drew) := Below.refl _ _
    go_region_law
      (first
        | (go_simp; go_at_call 11; have XL := SB.lt; clear B0c0 B0c1 B0c2 SBc0 SBc1 SBc2 SBc3 SBc4 SBc5 SBc6; have B0c0 := B0.cell 0; have B0c1 := B0.cell 1; have B0c2 := B0.cell 2; have SBc0 := SB.cell 0; have SBc1 := SB.cell 1; have SBc2 := SB.cell 2; have SBc3 := SB.cell 3; have SBc4 := SB.cell 4; have SBc5 := SB.cell 5; have SBc6 := SB.cell 6; simp at B0c0 B0c1 B0c2 SBc0 SBc1 SBc2 SBc3 SBc4 SBc5 SBc6; refine (HP.out.e2 _ Aba Abb Abc Abd Abe cba cbb cbc cbd cbe (own_rd Oba) (own_rd Obb) (own_rd Obc) (own_rd Obd) (own_rd Obe)).mono ?_; rintro e w6 ⟨Aca, cca, Acb, ccb, Acc, ccc, Acd, ccd, Ace, cce, rfl, Oca, Ocb, Occ, Ocd, Oce, h6⟩; replace Om := own_past Om h6; replace Ox := own_past Ox h6; replace Oba := own_past Oba h6; replace Obb := own_past Obb h6; replace Obc := own_past Obc h6; replace Obd := own_past Obd h6; replace Obe := own_past Obe h6; replace B0 := B0.past h6; replace SB := SB.past h6; replace Hb := Lib.hid (thenB Hb.out h6); replace HW := Lib.hid (thenB HW.out h6); have t10 : w5.heap.size ≤ w6.heap.size := h6.size; have Lca := own_lo Oca; have Uca := own_hi Oca; have Lcb := own_lo Ocb; have Ucb := own_hi Ocb; have Lcc := own_lo Occ; have Ucc := own_hi Occ; have Lcd := own_lo Ocd; have Ucd := own_hi Ocd; have Lce := own_lo Oce; have Uce := own_hi Oce; clear h6; clear B0c0 B0c1 B0c2 SBc0 SBc1 SBc2 SBc3 SBc4 SBc5 SBc6; have B0c0 := B0.cell 0; have B0c1 := B0.cell 1; have B0c2 := B0.cell 2; have SBc0 := SB.cell 0; have SBc1 := SB.cell 1; have SBc2 := SB.cell 2; have SBc3 := SB.cell 3; have SBc4 := SB.cell 4; have SBc5 := SB.cell 5; have SBc6 := SB.cell 6; simp at B0c0 B0c1 B0c2 SBc0 SBc1 SBc2 SBc3 SBc4 SBc5 SBc6; have xf0 := SB.frozen 0; have xf1 := SB.frozen 1; have xf2 := SB.frozen 2; have xf3 := SB.frozen 3; have xf4 := SB.frozen 4; have xf5 := SB.frozen 5; have xf6 := SB.frozen 6; have M := Lib.hid (mt_store (l := l) (s := s) HW.out SB (own_mono Oca (by omega)) (own_mono Ocb (by omega)) (own_mono Occ (by omega)) (own_mono Ocd (by omega)) (own_mono Oce (by omega)) (fun a e => Nat.ne_of_gt (Nat.lt_of_lt_of_le XL (Lca a e))) (fun a e => Nat.ne_of_gt (Nat.lt_of_lt_of_le XL (Lcb a e))) (fun a e => Nat.ne_of_gt (Nat.lt_of_lt_of_le XL (Lcc a e))) (fun a e => Nat.ne_of_gt (Nat.lt_of_lt_of_le XL (Lcd a e))) (fun a e => Nat.ne_of_gt (Nat.lt_of_lt_of_le XL (Lce a e)))))
        | (go_simp; go_at_call 14; refine (HP.out.ta _ Ax cx (rd_part HP.out.hxa (own_rd Ox)) (by omega) (by omega)).mono ?_; rintro e w5 ⟨rfl, h6⟩; replace Om := own_past Om h6; replace Ox := own_past Ox h6; replace Oba := own_past Oba h6; replace Obb := own_past Obb h6; replace Obc := own_past Obc h6; replace Obd := own_past Obd h6; replace Obe := own_past Obe h6; replace B0 := B0.past h6; replace SB := SB.past h6; replace Hb := Lib.hid (thenB Hb.out h6); replace HW := Lib.hid (thenB HW.out h6); have t9 : w4.drew.heap.size ≤ w5.heap.size := h6.size; clear h6; clear B0c0 B0c1 B0c2 SBc0 SBc1 SBc2 SBc3 SBc4 SBc5 SBc6; have B0c0 := B0.cell 0; have B0c1 := B0.cell 1; have B0c2 := B0.cell 2; have SBc0 := SB.cell 0; have SBc1 := SB.cell 1; have SBc2 := SB.cell 2; have SBc3 := SB.cell 3; have SBc4 := SB.cell 4; have SBc5 := SB.cell 5; have SBc6 := SB.cell 6; simp at B0c0 B0c1 B0c2 SBc0 SBc1 SBc2 SBc3 SBc4 SBc5 SBc6)
        | fail)
    all_goals (go_wp2_with fail; go_meet; exact ⟨_, _, _, _, _, _, _, _, _, _, rfl, M⟩)
  case rest =>
  obtain ⟨Aca, cca, Acb, ccb, Acc, ccc, Acd, ccd, Ace, cce, rfl, HM⟩ := hcut
  clear ad qd qd2 qw qb f0 f1 f2 f3 f4 f5 f6
  clear Oba Lba Uba
  clear Obb Lbb Ubb
  clear Obc Lbc Ubc
  clear Obd Lbd Ubd
  clear Obe Lbe Ube
  clear Nba Nbb Nbc Nbd Nbe
  clear B0c0 B0c1 B0c2 SBc0 SBc1 SBc2 SBc3 SBc4 SBc5 SBc6
  clear SB
  clear rta
  obtain ⟨T, SB, Oca, Ocb, Occ, Ocd, Oce, Nca, Ncb, Ncc, Ncd, Nce⟩ := HM.out
  clear HM
  replace Om := own_grown Om T (fun a e e' => by have h1 := Um a e; have h2 := Option.some.inj e'; omega)
  replace Ox := own_grown Ox T (fun a e e' => by have h1 := Ux a e; have h2 := Option.some.inj e'; omega)
  replace B0 := blk_turn B0 T (by omega)
  replace Hb := Lib.hid (turn_past Hb.out T Hb.out.size (by have := Hb.out.size; omega))
  have t9 : w4.drew.heap.size ≤ wc.heap.size := T.size
  clear T
  have VSB10 := SB.lt
  have Lca := own_lo Oca
  have Uca := own_hi Oca
  have Lcb := own_lo Ocb
  have Ucb := own_hi Ocb
  have Lcc := own_lo Occ
  have Ucc := own_hi Occ
  have Lcd := own_lo Ocd
  have Ucd := own_hi Ocd
  have Lce := own_lo Oce
  have Uce := own_hi Oce
  obtain ⟨w5, hwc⟩ : ∃ W, W = wc := ⟨_, rfl⟩
  subst hwc
  obtain ⟨Ar, hAr⟩ : ∃ Ar, Ar = (if cx = h then Ax else Option.map (fun x => x.add h) Ax) := ⟨_, rfl⟩
  have qr := hAr.symm
  have HAr := Lib.hid hAr
  clear hAr
  have bx : Below w5.heap.size w5 w5.drew := (Below.refl _ _).drew
  replace Om := own_past Om bx
  replace Ox := own_past Ox bx
  replace Oca := own_past Oca bx
  replace Ocb := own_past Ocb bx
  replace Occ := own_past Occ bx
  replace Ocd := own_past Ocd bx
  replace Oce := own_past Oce bx
  replace B0 := B0.past bx
  replace SB := SB.past bx
  replace Hb := Lib.hid (thenB Hb.out bx)
  clear bx
  have t11 : w5.heap.size ≤ w5.drew.heap.size := Nat.le_refl _
  have B0c0 := B0.cell 0
  have B0c1 := B0.cell 1
  have B0c2 := B0.cell 2
  have SBc0 := SB.cell 0
  have SBc1 := SB.cell 1
  have SBc2 := SB.cell 2
  have SBc3 := SB.cell 3
  have SBc4 := SB.cell 4
  have SBc5 := SB.cell 5
  have SBc6 := SB.cell 6
  simp at B0c0 B0c1 B0c2 SBc0 SBc1 SBc2 SBc3 SBc4 SBc5 SBc6
  have f0 := SB.frozen 0
  have f1 := SB.frozen 1
  have f2 := SB.frozen 2
  have f3 := SB.frozen 3
  have f4 := SB.frozen 4
  have f5 := SB.frozen 5
  have f6 := SB.frozen 6
  have sz : (ByteArray.mk #[109, 111, 114, 101, 32]).size + TB.size ≤ 9223372036854775807 := by have h1 : (ByteArray.mk #[109, 111, 114, 101, 32]).size ≤ 10 := (by decide); have h2 := HP.out.sb; omega
  have ad := fun W : World => run_string_add_sum (P := Tryz.prog) W (ByteArray.mk #[109, 111, 114, 101, 32]) TB sz
  have qd := Hqd.out
  have qd2 := Hqd2.out
  have qw : IntKind.i64.wrap (h : Int) = (h : Int) := Go.IntWalk.i64_in _ (by omega)
  have qb : h ≤ cx := by omega
  clear sz
  go_upto_region 7 with fail
  go_cut [8] from 53 to 64 (fun u wx => ∃ Ada cda Adb cdb Adc cdc Add cdd Ade cde, u = .string OKB ∧ Hid (MT w5.drew g l s Ada cda cs Adb cdb z Adc cdc x Add cdd N Ade cde N wx))
  case first =>
    have HW : Hid (Below w5.drew.heap.size w5.drew w5.drew) := Below.refl _ _
    have hlo : Hid (∀ a, Ax = some a → a.block < w5.drew.heap.size) := own_hi Ox
    go_region_law
      (first
        | (go_simp; go_at_call 11; have XL := SB.lt; clear B0c0 B0c1 B0c2 SBc0 SBc1 SBc2 SBc3 SBc4 SBc5 SBc6; have B0c0 := B0.cell 0; have B0c1 := B0.cell 1; have B0c2 := B0.cell 2; have SBc0 := SB.cell 0; have SBc1 := SB.cell 1; have SBc2 := SB.cell 2; have SBc3 := SB.cell 3; have SBc4 := SB.cell 4; have SBc5 := SB.cell 5; have SBc6 := SB.cell 6; simp at B0c0 B0c1 B0c2 SBc0 SBc1 SBc2 SBc3 SBc4 SBc5 SBc6; refine (HP.out.e3 _ Aca Acb Acc Acd Ace cca ccb ccc ccd cce (own_rd Oca) (own_rd Ocb) (own_rd Occ) (own_rd Ocd) (own_rd Oce)).mono ?_; rintro e w7 ⟨Ada, cda, Adb, cdb, Adc, cdc, Add, cdd, Ade, cde, rfl, Oda, Odb, Odc, Odd, Ode, h7⟩; replace Om := own_past Om h7; replace Ox := own_past Ox h7; replace Oca := own_past Oca h7; replace Ocb := own_past Ocb h7; replace Occ := own_past Occ h7; replace Ocd := own_past Ocd h7; replace Oce := own_past Oce h7; replace B0 := B0.past h7; replace SB := SB.past h7; replace Hb := Lib.hid (thenB Hb.out h7); replace HW := Lib.hid (thenB HW.out h7); have t13 : w6.heap.size ≤ w7.heap.size := h7.size; have Lda := own_lo Oda; have Uda := own_hi Oda; have Ldb := own_lo Odb; have Udb := own_hi Odb; have Ldc := own_lo Odc; have Udc := own_hi Odc; have Ldd := own_lo Odd; have Udd := own_hi Odd; have Lde := own_lo Ode; have Ude := own_hi Ode; clear h7; clear B0c0 B0c1 B0c2 SBc0 SBc1 SBc2 SBc3 SBc4 SBc5 SBc6; have B0c0 := B0.cell 0; have B0c1 := B0.cell 1; have B0c2 := B0.cell 2; have SBc0 := SB.cell 0; have SBc1 := SB.cell 1; have SBc2 := SB.cell 2; have SBc3 := SB.cell 3; have SBc4 := SB.cell 4; have SBc5 := SB.cell 5; have SBc6 := SB.cell 6; simp at B0c0 B0c1 B0c2 SBc0 SBc1 SBc2 SBc3 SBc4 SBc5 SBc6; have xf0 := SB.frozen 0; have xf1 := SB.frozen 1; have xf2 := SB.frozen 2; have xf3 := SB.frozen 3; have xf4 := SB.frozen 4; have xf5 := SB.frozen 5; have xf6 := SB.frozen 6; have M := Lib.hid (mt_store (l := l) (s := s) HW.out SB (own_mono Oda (by omega)) (own_mono Odb (by omega)) (own_mono Odc (by omega)) (own_mono Odd (by omega)) (own_mono Ode (by omega)) (fun a e => Nat.ne_of_gt (Nat.lt_of_lt_of_le XL (Lda a e))) (fun a e => Nat.ne_of_gt (Nat.lt_of_lt_of_le XL (Ldb a e))) (fun a e => Nat.ne_of_gt (Nat.lt_of_lt_of_le XL (Ldc a e))) (fun a e => Nat.ne_of_gt (Nat.lt_of_lt_of_le XL (Ldd a e))) (fun a e => Nat.ne_of_gt (Nat.lt_of_lt_of_le XL (Lde a e)))))
        | (go_simp; go_at_call 14; refine (HP.out.tb _ Ar _ (rd_rest HAr.out HP.out.hxb (own_rd Ox) cx1) (by omega) (by omega)).mono ?_; rintro e w6 ⟨rfl, h6⟩; replace Om := own_past Om h6; replace Ox := own_past Ox h6; replace Oca := own_past Oca h6; replace Ocb := own_past Ocb h6; replace Occ := own_past Occ h6; replace Ocd := own_past Ocd h6; replace Oce := own_past Oce h6; replace B0 := B0.past h6; replace SB := SB.past h6; replace Hb := Lib.hid (thenB Hb.out h6); replace HW := Lib.hid (thenB HW.out h6); have t12 : w5.drew.heap.size ≤ w6.heap.size := h6.size; clear h6; clear B0c0 B0c1 B0c2 SBc0 SBc1 SBc2 SBc3 SBc4 SBc5 SBc6; have B0c0 := B0.cell 0; have B0c1 := B0.cell 1; have B0c2 := B0.cell 2; have SBc0 := SB.cell 0; have SBc1 := SB.cell 1; have SBc2 := SB.cell 2; have SBc3 := SB.cell 3; have SBc4 := SB.cell 4; have SBc5 := SB.cell 5; have SBc6 := SB.cell 6; simp at B0c0 B0c1 B0c2 SBc0 SBc1 SBc2 SBc3 SBc4 SBc5 SBc6)
        | fail)
    all_goals (go_wp2_with fail; go_meet; exact ⟨_, _, _, _, _, _, _, _, _, _, rfl, M⟩)
  case rest =>
  obtain ⟨Ada, cda, Adb, cdb, Adc, cdc, Add, cdd, Ade, cde, rfl, HM⟩ := hcut
  clear ad qd qd2 qw qb f0 f1 f2 f3 f4 f5 f6
  clear Oca Lca Uca
  clear Ocb Lcb Ucb
  clear Occ Lcc Ucc
  clear Ocd Lcd Ucd
  clear Oce Lce Uce
  clear Nca Ncb Ncc Ncd Nce
  clear B0c0 B0c1 B0c2 SBc0 SBc1 SBc2 SBc3 SBc4 SBc5 SBc6
  clear SB
  clear qr HAr
  obtain ⟨T, SB, Oda, Odb, Odc, Odd, Ode, Nda, Ndb, Ndc, Ndd, Nde⟩ := HM.out
  clear HM
  replace Om := own_grown Om T (fun a e e' => by have h1 := Um a e; have h2 := Option.some.inj e'; omega)
  replace Ox := own_grown Ox T (fun a e e' => by have h1 := Ux a e; have h2 := Option.some.inj e'; omega)
  replace B0 := blk_turn B0 T (by omega)
  replace Hb := Lib.hid (turn_past Hb.out T Hb.out.size (by have := Hb.out.size; omega))
  have t12 : w5.drew.heap.size ≤ wc.heap.size := T.size
  clear T
  have VSB13 := SB.lt
  have Lda := own_lo Oda
  have Uda := own_hi Oda
  have Ldb := own_lo Odb
  have Udb := own_hi Odb
  have Ldc := own_lo Odc
  have Udc := own_hi Odc
  have Ldd := own_lo Odd
  have Udd := own_hi Odd
  have Lde := own_lo Ode
  have Ude := own_hi Ode
  obtain ⟨w6, hwc⟩ : ∃ W, W = wc := ⟨_, rfl⟩
  subst hwc
  have tok := HP.out.hok
  have tok2 : OKB.toList = [111, 107] := by simpa using tok
  have B0c0 := B0.cell 0
  have B0c1 := B0.cell 1
  have B0c2 := B0.cell 2
  have SBc0 := SB.cell 0
  have SBc1 := SB.cell 1
  have SBc2 := SB.cell 2
  have SBc3 := SB.cell 3
  have SBc4 := SB.cell 4
  have SBc5 := SB.cell 5
  have SBc6 := SB.cell 6
  simp at B0c0 B0c1 B0c2 SBc0 SBc1 SBc2 SBc3 SBc4 SBc5 SBc6
  go_wp2_with fail
  refine (HP.out.is _ Ada Adb Adc Add Ade cda cdb cdc cdd cde (own_rd Oda) (own_rd Odb) (own_rd Odc) (own_rd Odd) (own_rd Ode)).mono ?_
  rintro e w7 ⟨rfl, h7⟩
  replace Om := own_past Om h7
  replace Ox := own_past Ox h7
  replace Oda := own_past Oda h7
  replace Odb := own_past Odb h7
  replace Odc := own_past Odc h7
  replace Odd := own_past Odd h7
  replace Ode := own_past Ode h7
  replace B0 := B0.past h7
  replace SB := SB.past h7
  replace Hb := Lib.hid (thenB Hb.out h7)
  have t14 : w6.heap.size ≤ w7.heap.size := h7.size
  clear h7
  clear B0c0 B0c1 B0c2 SBc0 SBc1 SBc2 SBc3 SBc4 SBc5 SBc6
  have B0c0 := B0.cell 0
  have B0c1 := B0.cell 1
  have B0c2 := B0.cell 2
  have SBc0 := SB.cell 0
  have SBc1 := SB.cell 1
  have SBc2 := SB.cell 2
  have SBc3 := SB.cell 3
  have SBc4 := SB.cell 4
  have SBc5 := SB.cell 5
  have SBc6 := SB.cell 6
  simp at B0c0 B0c1 B0c2 SBc0 SBc1 SBc2 SBc3 SBc4 SBc5 SBc6
  go_wp2_with fail
  refine (ints_self Adc Ax cdc cx x _ (own_rd Odc) (own_rd Ox) (by omega)).mono ?_
  rintro e w8 ⟨rfl, h8⟩
  replace Om := own_past Om h8
  replace Ox := own_past Ox h8
  replace Oda := own_past Oda h8
  replace Odb := own_past Odb h8
  replace Odc := own_past Odc h8
  replace Odd := own_past Odd h8
  replace Ode := own_past Ode h8
  replace B0 := B0.past h8
  replace SB := SB.past h8
  replace Hb := Lib.hid (thenB Hb.out h8)
  have t15 : w7.heap.size ≤ w8.heap.size := h8.size
  clear h8
  go_wp2_with fail
  clear tok tok2
  have bx : Below w8.heap.size w8 w8.drew := (Below.refl _ _).drew
  replace Om := own_past Om bx
  replace Ox := own_past Ox bx
  replace Oda := own_past Oda bx
  replace Odb := own_past Odb bx
  replace Odc := own_past Odc bx
  replace Odd := own_past Odd bx
  replace Ode := own_past Ode bx
  replace B0 := B0.past bx
  replace SB := SB.past bx
  replace Hb := Lib.hid (thenB Hb.out bx)
  clear bx
  have t16 : w8.heap.size ≤ w8.drew.heap.size := Nat.le_refl _
  clear B0c0 B0c1 B0c2 SBc0 SBc1 SBc2 SBc3 SBc4 SBc5 SBc6
  have B0c0 := B0.cell 0
  have B0c1 := B0.cell 1
  have B0c2 := B0.cell 2
  have SBc0 := SB.cell 0
  have SBc1 := SB.cell 1
  have SBc2 := SB.cell 2
  have SBc3 := SB.cell 3
  have SBc4 := SB.cell 4
  have SBc5 := SB.cell 5
  have SBc6 := SB.cell 6
  simp at B0c0 B0c1 B0c2 SBc0 SBc1 SBc2 SBc3 SBc4 SBc5 SBc6
  go_wp2_with fail
  go_region_held3 (fun w' => w'.cell? ⟨w1.heap.size, 0, none⟩ = some (.int .i64 l) ∧ w'.cell? ⟨w1.heap.size, 1, none⟩ = some (.int .i64 s) ∧ w'.cell? ⟨w1.heap.size, 2, none⟩ = some (.slice Am cs.length cm)) (first | go_keep)
    (first
      | (go_at_call 18; clear B0c0 B0c1 B0c2 SBc0 SBc1 SBc2 SBc3 SBc4 SBc5 SBc6; have B0c0 := B0.cell 0; have B0c1 := B0.cell 1; have B0c2 := B0.cell 2; have SBc0 := SB.cell 0; have SBc1 := SB.cell 1; have SBc2 := SB.cell 2; have SBc3 := SB.cell 3; have SBc4 := SB.cell 4; have SBc5 := SB.cell 5; have SBc6 := SB.cell 6; simp at B0c0 B0c1 B0c2 SBc0 SBc1 SBc2 SBc3 SBc4 SBc5 SBc6; refine (HP.out.pl _ Am cm (own_rd Om)).mono ?_; rintro e w9 ⟨Ap, cp, rfl, Op, h9⟩; replace Om := own_past Om h9; replace Ox := own_past Ox h9; replace Oda := own_past Oda h9; replace Odb := own_past Odb h9; replace Odc := own_past Odc h9; replace Odd := own_past Odd h9; replace Ode := own_past Ode h9; replace B0 := B0.past h9; replace SB := SB.past h9; replace Hb := Lib.hid (thenB Hb.out h9); have t17 : w8.drew.heap.size ≤ w9.heap.size := h9.size; have Lp := own_lo Op; have Up := own_hi Op; clear h9; clear B0c0 B0c1 B0c2 SBc0 SBc1 SBc2 SBc3 SBc4 SBc5 SBc6; have B0c0 := B0.cell 0; have B0c1 := B0.cell 1; have B0c2 := B0.cell 2; have SBc0 := SB.cell 0; have SBc1 := SB.cell 1; have SBc2 := SB.cell 2; have SBc3 := SB.cell 3; have SBc4 := SB.cell 4; have SBc5 := SB.cell 5; have SBc6 := SB.cell 6; simp at B0c0 B0c1 B0c2 SBc0 SBc1 SBc2 SBc3 SBc4 SBc5 SBc6)
      | (go_at_call 17; clear B0c0 B0c1 B0c2 SBc0 SBc1 SBc2 SBc3 SBc4 SBc5 SBc6; have B0c0 := B0.cell 0; have B0c1 := B0.cell 1; have B0c2 := B0.cell 2; have SBc0 := SB.cell 0; have SBc1 := SB.cell 1; have SBc2 := SB.cell 2; have SBc3 := SB.cell 3; have SBc4 := SB.cell 4; have SBc5 := SB.cell 5; have SBc6 := SB.cell 6; simp at B0c0 B0c1 B0c2 SBc0 SBc1 SBc2 SBc3 SBc4 SBc5 SBc6; refine (HP.out.rn _ Am cm Ap cp Ax cx (own_rd Om) (own_rd Op) (own_rd Ox)).mono ?_; rintro e w10 ⟨Ay, cy, Ae, ce, Aq, cq, rfl, Oy, Oe, Oq, h10⟩; replace Om := own_past Om h10; replace Ox := own_past Ox h10; replace Oda := own_past Oda h10; replace Odb := own_past Odb h10; replace Odc := own_past Odc h10; replace Odd := own_past Odd h10; replace Ode := own_past Ode h10; replace Op := own_past Op h10; replace B0 := B0.past h10; replace SB := SB.past h10; replace Hb := Lib.hid (thenB Hb.out h10); have t18 : w9.heap.size ≤ w10.heap.size := h10.size; have Ly := own_lo Oy; have Uy := own_hi Oy; have Le := own_lo Oe; have Ue := own_hi Oe; have Lq := own_lo Oq; have Uq := own_hi Oq; clear h10; clear B0c0 B0c1 B0c2 SBc0 SBc1 SBc2 SBc3 SBc4 SBc5 SBc6; have B0c0 := B0.cell 0; have B0c1 := B0.cell 1; have B0c2 := B0.cell 2; have SBc0 := SB.cell 0; have SBc1 := SB.cell 1; have SBc2 := SB.cell 2; have SBc3 := SB.cell 3; have SBc4 := SB.cell 4; have SBc5 := SB.cell 5; have SBc6 := SB.cell 6; simp at B0c0 B0c1 B0c2 SBc0 SBc1 SBc2 SBc3 SBc4 SBc5 SBc6)
      | fail)
  clear Op Lp Up
  cases ok
  · obtain ⟨T, HBd⟩ := HP.out.bad rfl
    have tno := HBd.no
    have HBd2 := Lib.hid HBd
    clear HBd
    clear B0c0 B0c1 B0c2 SBc0 SBc1 SBc2 SBc3 SBc4 SBc5 SBc6
    have B0c0 := B0.cell 0
    have B0c1 := B0.cell 1
    have B0c2 := B0.cell 2
    have SBc0 := SB.cell 0
    have SBc1 := SB.cell 1
    have SBc2 := SB.cell 2
    have SBc3 := SB.cell 3
    have SBc4 := SB.cell 4
    have SBc5 := SB.cell 5
    have SBc6 := SB.cell 6
    simp at B0c0 B0c1 B0c2 SBc0 SBc1 SBc2 SBc3 SBc4 SBc5 SBc6
    go_wp2_with fail
    refine (HBd2.out.run _ Ada Adb Adc Add Ade cda cdb cdc cdd cde (own_rd Oda) (own_rd Odb) (own_rd Odc) (own_rd Odd) (own_rd Ode)).mono ?_
    rintro e w11 ⟨Aka, cka, Akb, ckb, Akc, ckc, Akd, ckd, Ake, cke, rfl, Oka, Okb, Okc, Okd, Oke, h11⟩
    replace Om := own_past Om h11
    replace Ox := own_past Ox h11
    replace Oda := own_past Oda h11
    replace Odb := own_past Odb h11
    replace Odc := own_past Odc h11
    replace Odd := own_past Odd h11
    replace Ode := own_past Ode h11
    replace Oy := own_past Oy h11
    replace Oe := own_past Oe h11
    replace Oq := own_past Oq h11
    replace B0 := B0.past h11
    replace SB := SB.past h11
    replace Hb := Lib.hid (thenB Hb.out h11)
    have t19 : w10.heap.size ≤ w11.heap.size := h11.size
    have Lka := own_lo Oka
    have Uka := own_hi Oka
    have Lkb := own_lo Okb
    have Ukb := own_hi Okb
    have Lkc := own_lo Okc
    have Ukc := own_hi Okc
    have Lkd := own_lo Okd
    have Ukd := own_hi Okd
    have Lke := own_lo Oke
    have Uke := own_hi Oke
    clear h11
    have bx : Below w11.heap.size w11 (w11.alloc (.cells #[.int .i64 l, .int .i64 s, .slice Aka cs.length cka, .slice Akb z.length ckb, .slice Akc x.length ckc, .slice Akd N.length ckd, .slice Ake N.length cke] 33)) := (Below.refl _ _).alloc (Nat.le_refl _) _
    have SK := Blk.new w11 33 #[.int .i64 l, .int .i64 s, .slice Aka cs.length cka, .slice Akb z.length ckb, .slice Akc x.length ckc, .slice Akd N.length ckd, .slice Ake N.length cke]
    have VSK : w11.heap.size < (w11.alloc (.cells #[.int .i64 l, .int .i64 s, .slice Aka cs.length cka, .slice Akb z.length ckb, .slice Akc x.length ckc, .slice Akd N.length ckd, .slice Ake N.length cke] 33)).heap.size := by simp
    replace Om := own_past Om bx
    replace Ox := own_past Ox bx
    replace Oda := own_past Oda bx
    replace Odb := own_past Odb bx
    replace Odc := own_past Odc bx
    replace Odd := own_past Odd bx
    replace Ode := own_past Ode bx
    replace Oy := own_past Oy bx
    replace Oe := own_past Oe bx
    replace Oq := own_past Oq bx
    replace Oka := own_past Oka bx
    replace Okb := own_past Okb bx
    replace Okc := own_past Okc bx
    replace Okd := own_past Okd bx
    replace Oke := own_past Oke bx
    replace B0 := B0.past bx
    replace SB := SB.past bx
    replace Hb := Lib.hid (thenB Hb.out bx)
    clear bx
    go_wp2_with fail
    go_ret
    exact ⟨rfl, Hb.out⟩
  · obtain ⟨TY, TE, TS, TF, TM, O0, O1, sy, sf, HGd⟩ := HP.out.good rfl
    have HG := Lib.hid HGd
    clear HGd
    clear B0c0 B0c1 B0c2 SBc0 SBc1 SBc2 SBc3 SBc4 SBc5 SBc6
    have B0c0 := B0.cell 0
    have B0c1 := B0.cell 1
    have B0c2 := B0.cell 2
    have SBc0 := SB.cell 0
    have SBc1 := SB.cell 1
    have SBc2 := SB.cell 2
    have SBc3 := SB.cell 3
    have SBc4 := SB.cell 4
    have SBc5 := SB.cell 5
    have SBc6 := SB.cell 6
    simp at B0c0 B0c1 B0c2 SBc0 SBc1 SBc2 SBc3 SBc4 SBc5 SBc6
    go_wp2_with fail
    refine (HG.out.run _ Ada Adb Adc Add Ade cda cdb cdc cdd cde (own_rd Oda) (own_rd Odb) (own_rd Odc) (own_rd Odd) (own_rd Ode)).mono ?_
    rintro e w11 ⟨Aka, cka, Akb, ckb, Akc, ckc, Akd, ckd, Ake, cke, rfl, Oka, Okb, Okc, Okd, Oke, h11⟩
    replace Om := own_past Om h11
    replace Ox := own_past Ox h11
    replace Oda := own_past Oda h11
    replace Odb := own_past Odb h11
    replace Odc := own_past Odc h11
    replace Odd := own_past Odd h11
    replace Ode := own_past Ode h11
    replace Oy := own_past Oy h11
    replace Oe := own_past Oe h11
    replace Oq := own_past Oq h11
    replace B0 := B0.past h11
    replace SB := SB.past h11
    replace Hb := Lib.hid (thenB Hb.out h11)
    have t19 : w10.heap.size ≤ w11.heap.size := h11.size
    have Lka := own_lo Oka
    have Uka := own_hi Oka
    have Lkb := own_lo Okb
    have Ukb := own_hi Okb
    have Lkc := own_lo Okc
    have Ukc := own_hi Okc
    have Lkd := own_lo Okd
    have Ukd := own_hi Okd
    have Lke := own_lo Oke
    have Uke := own_hi Oke
    clear h11
    clear Oda Lda Uda
    clear Odb Ldb Udb
    clear Odc Ldc Udc
    clear Odd Ldd Udd
    clear Ode Lde Ude
    clear SB
    have bx : Below w11.heap.size w11 (w11.alloc (.cells #[.int .i64 l, .int .i64 s, .slice Aka cs.length cka, .slice Akb rm.length ckb, .slice Akc N.length ckc, .slice Akd ry.length ckd, .slice Ake re.length cke] 33)) := (Below.refl _ _).alloc (Nat.le_refl _) _
    have SK := Blk.new w11 33 #[.int .i64 l, .int .i64 s, .slice Aka cs.length cka, .slice Akb rm.length ckb, .slice Akc N.length ckc, .slice Akd ry.length ckd, .slice Ake re.length cke]
    have VSK : w11.heap.size < (w11.alloc (.cells #[.int .i64 l, .int .i64 s, .slice Aka cs.length cka, .slice Akb rm.length ckb, .slice Akc N.length ckc, .slice Akd ry.length ckd, .slice Ake re.length cke] 33)).heap.size := by simp
    replace Om := own_past Om bx
    replace Ox := own_past Ox bx
    replace Oy := own_past Oy bx
    replace Oe := own_past Oe bx
    replace Oq := own_past Oq bx
    replace Oka := own_past Oka bx
    replace Okb := own_past Okb bx
    replace Okc := own_past Okc bx
    replace Okd := own_past Okd bx
    replace Oke := own_past Oke bx
    replace B0 := B0.past bx
    replace Hb := Lib.hid (thenB Hb.out bx)
    clear bx
    clear B0c0 B0c1 B0c2 SBc0 SBc1 SBc2 SBc3 SBc4 SBc5 SBc6
    have B0c0 := B0.cell 0
    have B0c1 := B0.cell 1
    have B0c2 := B0.cell 2
    have SKc0 := SK.cell 0
    have SKc1 := SK.cell 1
    have SKc2 := SK.cell 2
    have SKc3 := SK.cell 3
    have SKc4 := SK.cell 4
    have SKc5 := SK.cell 5
    have SKc6 := SK.cell 6
    simp at B0c0 B0c1 B0c2 SKc0 SKc1 SKc2 SKc3 SKc4 SKc5 SKc6
    go_wp2_with fail
    refine (HG.out.err _ Aka Akb Akc Akd Ake cka ckb ckc ckd cke (own_rd Oka) (own_rd Okb) (own_rd Okc) (own_rd Okd) (own_rd Oke)).mono ?_
    rintro e w12 ⟨Aua, cua, Aub, cub, Auc, cuc, Aud, cud, Aue, cue, rfl, Oua, Oub, Ouc, Oud, Oue, h12⟩
    replace Om := own_past Om h12
    replace Ox := own_past Ox h12
    replace Oy := own_past Oy h12
    replace Oe := own_past Oe h12
    replace Oq := own_past Oq h12
    replace Oka := own_past Oka h12
    replace Okb := own_past Okb h12
    replace Okc := own_past Okc h12
    replace Okd := own_past Okd h12
    replace Oke := own_past Oke h12
    replace B0 := B0.past h12
    replace SK := SK.past h12
    replace Hb := Lib.hid (thenB Hb.out h12)
    have t21 : (w11.alloc (.cells #[.int .i64 l, .int .i64 s, .slice Aka cs.length cka, .slice Akb rm.length ckb, .slice Akc N.length ckc, .slice Akd ry.length ckd, .slice Ake re.length cke] 33)).heap.size ≤ w12.heap.size := h12.size
    have Lua := own_lo Oua
    have Uua := own_hi Oua
    have Lub := own_lo Oub
    have Uub := own_hi Oub
    have Luc := own_lo Ouc
    have Uuc := own_hi Ouc
    have Lud := own_lo Oud
    have Uud := own_hi Oud
    have Lue := own_lo Oue
    have Uue := own_hi Oue
    clear h12
    have bx : Below w12.heap.size w12 (w12.alloc (.cells #[.int .i64 l, .int .i64 s, .slice Aua cs.length cua, .slice Aub rm.length cub, .slice Auc N.length cuc, .slice Aud ry.length cud, .slice Aue re.length cue] 33)) := (Below.refl _ _).alloc (Nat.le_refl _) _
    have SU := Blk.new w12 33 #[.int .i64 l, .int .i64 s, .slice Aua cs.length cua, .slice Aub rm.length cub, .slice Auc N.length cuc, .slice Aud ry.length cud, .slice Aue re.length cue]
    have VSU : w12.heap.size < (w12.alloc (.cells #[.int .i64 l, .int .i64 s, .slice Aua cs.length cua, .slice Aub rm.length cub, .slice Auc N.length cuc, .slice Aud ry.length cud, .slice Aue re.length cue] 33)).heap.size := by simp
    replace Om := own_past Om bx
    replace Ox := own_past Ox bx
    replace Oy := own_past Oy bx
    replace Oe := own_past Oe bx
    replace Oq := own_past Oq bx
    replace Oka := own_past Oka bx
    replace Okb := own_past Okb bx
    replace Okc := own_past Okc bx
    replace Okd := own_past Okd bx
    replace Oke := own_past Oke bx
    replace Oua := own_past Oua bx
    replace Oub := own_past Oub bx
    replace Ouc := own_past Ouc bx
    replace Oud := own_past Oud bx
    replace Oue := own_past Oue bx
    replace B0 := B0.past bx
    replace SK := SK.past bx
    replace Hb := Lib.hid (thenB Hb.out bx)
    clear bx
    clear SU VSU
    clear Oua Lua Uua
    clear Oub Lub Uub
    clear Ouc Luc Uuc
    clear Oud Lud Uud
    clear Oue Lue Uue
    clear B0c0 B0c1 B0c2 SKc0 SKc1 SKc2 SKc3 SKc4 SKc5 SKc6
    have B0c0 := B0.cell 0
    have B0c1 := B0.cell 1
    have B0c2 := B0.cell 2
    have SKc0 := SK.cell 0
    have SKc1 := SK.cell 1
    have SKc2 := SK.cell 2
    have SKc3 := SK.cell 3
    have SKc4 := SK.cell 4
    have SKc5 := SK.cell 5
    have SKc6 := SK.cell 6
    simp at B0c0 B0c1 B0c2 SKc0 SKc1 SKc2 SKc3 SKc4 SKc5 SKc6
    go_wp2_with fail
    refine (HG.out.sum _ Aka Akb Akc Akd Ake cka ckb ckc ckd cke (own_rd Oka) (own_rd Okb) (own_rd Okc) (own_rd Okd) (own_rd Oke)).mono ?_
    rintro e w13 ⟨Ava, cva, Avb, cvb, Avc, cvc, Avd, cvd, Ave, cve, rfl, Ova, Ovb, Ovc, Ovd, Ove, h13⟩
    replace Om := own_past Om h13
    replace Ox := own_past Ox h13
    replace Oy := own_past Oy h13
    replace Oe := own_past Oe h13
    replace Oq := own_past Oq h13
    replace Oka := own_past Oka h13
    replace Okb := own_past Okb h13
    replace Okc := own_past Okc h13
    replace Okd := own_past Okd h13
    replace Oke := own_past Oke h13
    replace B0 := B0.past h13
    replace SK := SK.past h13
    replace Hb := Lib.hid (thenB Hb.out h13)
    have t23 : (w12.alloc (.cells #[.int .i64 l, .int .i64 s, .slice Aua cs.length cua, .slice Aub rm.length cub, .slice Auc N.length cuc, .slice Aud ry.length cud, .slice Aue re.length cue] 33)).heap.size ≤ w13.heap.size := h13.size
    have Lva := own_lo Ova
    have Uva := own_hi Ova
    have Lvb := own_lo Ovb
    have Uvb := own_hi Ovb
    have Lvc := own_lo Ovc
    have Uvc := own_hi Ovc
    have Lvd := own_lo Ovd
    have Uvd := own_hi Ovd
    have Lve := own_lo Ove
    have Uve := own_hi Ove
    clear h13
    have bx : Below w13.heap.size w13 (w13.alloc (.cells #[.int .i64 l, .int .i64 s, .slice Ava cs.length cva, .slice Avb rm.length cvb, .slice Avc N.length cvc, .slice Avd ry.length cvd, .slice Ave re.length cve] 33)) := (Below.refl _ _).alloc (Nat.le_refl _) _
    have SU := Blk.new w13 33 #[.int .i64 l, .int .i64 s, .slice Ava cs.length cva, .slice Avb rm.length cvb, .slice Avc N.length cvc, .slice Avd ry.length cvd, .slice Ave re.length cve]
    have VSU : w13.heap.size < (w13.alloc (.cells #[.int .i64 l, .int .i64 s, .slice Ava cs.length cva, .slice Avb rm.length cvb, .slice Avc N.length cvc, .slice Avd ry.length cvd, .slice Ave re.length cve] 33)).heap.size := by simp
    replace Om := own_past Om bx
    replace Ox := own_past Ox bx
    replace Oy := own_past Oy bx
    replace Oe := own_past Oe bx
    replace Oq := own_past Oq bx
    replace Oka := own_past Oka bx
    replace Okb := own_past Okb bx
    replace Okc := own_past Okc bx
    replace Okd := own_past Okd bx
    replace Oke := own_past Oke bx
    replace Ova := own_past Ova bx
    replace Ovb := own_past Ovb bx
    replace Ovc := own_past Ovc bx
    replace Ovd := own_past Ovd bx
    replace Ove := own_past Ove bx
    replace B0 := B0.past bx
    replace SK := SK.past bx
    replace Hb := Lib.hid (thenB Hb.out bx)
    clear bx
    clear SU VSU
    clear Ova Lva Uva
    clear Ovb Lvb Uvb
    clear Ovc Lvc Uvc
    clear Ovd Lvd Uvd
    clear Ove Lve Uve
    clear B0c0 B0c1 B0c2 SKc0 SKc1 SKc2 SKc3 SKc4 SKc5 SKc6
    have B0c0 := B0.cell 0
    have B0c1 := B0.cell 1
    have B0c2 := B0.cell 2
    have SKc0 := SK.cell 0
    have SKc1 := SK.cell 1
    have SKc2 := SK.cell 2
    have SKc3 := SK.cell 3
    have SKc4 := SK.cell 4
    have SKc5 := SK.cell 5
    have SKc6 := SK.cell 6
    simp at B0c0 B0c1 B0c2 SKc0 SKc1 SKc2 SKc3 SKc4 SKc5 SKc6
    go_wp2_with fail
    refine (HG.out.safe _ Aka Akb Akc Akd Ake cka ckb ckc ckd cke (own_rd Oka) (own_rd Okb) (own_rd Okc) (own_rd Okd) (own_rd Oke)).mono ?_
    rintro e w14 ⟨Ara, cra, Arb, crb, Arc, crc, Ard, crd, Are, cre, rfl, Ora, Orb, Orc, Ord, Ore, h14⟩
    replace Om := own_past Om h14
    replace Ox := own_past Ox h14
    replace Oy := own_past Oy h14
    replace Oe := own_past Oe h14
    replace Oq := own_past Oq h14
    replace Oka := own_past Oka h14
    replace Okb := own_past Okb h14
    replace Okc := own_past Okc h14
    replace Okd := own_past Okd h14
    replace Oke := own_past Oke h14
    replace B0 := B0.past h14
    replace SK := SK.past h14
    replace Hb := Lib.hid (thenB Hb.out h14)
    have t25 : (w13.alloc (.cells #[.int .i64 l, .int .i64 s, .slice Ava cs.length cva, .slice Avb rm.length cvb, .slice Avc N.length cvc, .slice Avd ry.length cvd, .slice Ave re.length cve] 33)).heap.size ≤ w14.heap.size := h14.size
    have Lra := own_lo Ora
    have Ura := own_hi Ora
    have Lrb := own_lo Orb
    have Urb := own_hi Orb
    have Lrc := own_lo Orc
    have Urc := own_hi Orc
    have Lrd := own_lo Ord
    have Urd := own_hi Ord
    have Lre := own_lo Ore
    have Ure := own_hi Ore
    clear h14
    have bx : Below w14.heap.size w14 (w14.alloc (.cells #[.int .i64 l, .int .i64 s, .slice Ara cs.length cra, .slice Arb rm.length crb, .slice Arc N.length crc, .slice Ard ry.length crd, .slice Are re.length cre] 33)) := (Below.refl _ _).alloc (Nat.le_refl _) _
    have SU := Blk.new w14 33 #[.int .i64 l, .int .i64 s, .slice Ara cs.length cra, .slice Arb rm.length crb, .slice Arc N.length crc, .slice Ard ry.length crd, .slice Are re.length cre]
    have VSU : w14.heap.size < (w14.alloc (.cells #[.int .i64 l, .int .i64 s, .slice Ara cs.length cra, .slice Arb rm.length crb, .slice Arc N.length crc, .slice Ard ry.length crd, .slice Are re.length cre] 33)).heap.size := by simp
    replace Om := own_past Om bx
    replace Ox := own_past Ox bx
    replace Oy := own_past Oy bx
    replace Oe := own_past Oe bx
    replace Oq := own_past Oq bx
    replace Oka := own_past Oka bx
    replace Okb := own_past Okb bx
    replace Okc := own_past Okc bx
    replace Okd := own_past Okd bx
    replace Oke := own_past Oke bx
    replace Ora := own_past Ora bx
    replace Orb := own_past Orb bx
    replace Orc := own_past Orc bx
    replace Ord := own_past Ord bx
    replace Ore := own_past Ore bx
    replace B0 := B0.past bx
    replace SK := SK.past bx
    replace Hb := Lib.hid (thenB Hb.out bx)
    clear bx
    clear SU VSU
    clear Ora Lra Ura
    clear Orb Lrb Urb
    clear Orc Lrc Urc
    clear Ord Lrd Urd
    clear Ore Lre Ure
    have z1 : (ByteArray.mk #[10, 105, 110, 32]).size = 4 := rfl
    have z2 : (ByteArray.mk #[10, 114, 117, 110, 10, 109, 101, 109, 111, 114, 121]).size = 11 := rfl
    have z3 := HP.out.sm
    have z4 := HP.out.sx
    have d1 := fun W : World => run_string_add_sum (P := Tryz.prog) W FM (ByteArray.mk #[10, 105, 110, 32]) (by omega)
    have d2 := fun W : World => run_string_add_sum (P := Tryz.prog) W (FM ++ ByteArray.mk #[10, 105, 110, 32]) TX (by rw [ByteArray.size_append]; omega)
    have d3 := fun W : World => run_string_add_sum (P := Tryz.prog) W ((FM ++ ByteArray.mk #[10, 105, 110, 32]) ++ TX) (ByteArray.mk #[10, 114, 117, 110, 10, 109, 101, 109, 111, 114, 121]) (by rw [ByteArray.size_append, ByteArray.size_append]; omega)
    clear z1 z2 z3 z4
    clear B0c0 B0c1 B0c2 SKc0 SKc1 SKc2 SKc3 SKc4 SKc5 SKc6
    have B0c0 := B0.cell 0
    have B0c1 := B0.cell 1
    have B0c2 := B0.cell 2
    have SKc0 := SK.cell 0
    have SKc1 := SK.cell 1
    have SKc2 := SK.cell 2
    have SKc3 := SK.cell 3
    have SKc4 := SK.cell 4
    have SKc5 := SK.cell 5
    have SKc6 := SK.cell 6
    simp at B0c0 B0c1 B0c2 SKc0 SKc1 SKc2 SKc3 SKc4 SKc5 SKc6
    go_wp2_with fail
    refine (HP.out.fs _ Am cm (own_rd Om) HCm.out).mono ?_
    rintro e w15 ⟨rfl, h15⟩
    replace Om := own_past Om h15
    replace Ox := own_past Ox h15
    replace Oy := own_past Oy h15
    replace Oe := own_past Oe h15
    replace Oq := own_past Oq h15
    replace Oka := own_past Oka h15
    replace Okb := own_past Okb h15
    replace Okc := own_past Okc h15
    replace Okd := own_past Okd h15
    replace Oke := own_past Oke h15
    replace B0 := B0.past h15
    replace SK := SK.past h15
    replace Hb := Lib.hid (thenB Hb.out h15)
    have t27 : (w14.alloc (.cells #[.int .i64 l, .int .i64 s, .slice Ara cs.length cra, .slice Arb rm.length crb, .slice Arc N.length crc, .slice Ard ry.length crd, .slice Are re.length cre] 33)).heap.size ≤ w15.heap.size := h15.size
    clear h15
    clear B0c0 B0c1 B0c2 SKc0 SKc1 SKc2 SKc3 SKc4 SKc5 SKc6
    have B0c0 := B0.cell 0
    have B0c1 := B0.cell 1
    have B0c2 := B0.cell 2
    have SKc0 := SK.cell 0
    have SKc1 := SK.cell 1
    have SKc2 := SK.cell 2
    have SKc3 := SK.cell 3
    have SKc4 := SK.cell 4
    have SKc5 := SK.cell 5
    have SKc6 := SK.cell 6
    simp at B0c0 B0c1 B0c2 SKc0 SKc1 SKc2 SKc3 SKc4 SKc5 SKc6
    go_wp2_with fail
    refine (HP.out.tx _ Ax cx (own_rd Ox) cx1 cx2).mono ?_
    rintro e w16 ⟨rfl, h16⟩
    replace Om := own_past Om h16
    replace Ox := own_past Ox h16
    replace Oy := own_past Oy h16
    replace Oe := own_past Oe h16
    replace Oq := own_past Oq h16
    replace Oka := own_past Oka h16
    replace Okb := own_past Okb h16
    replace Okc := own_past Okc h16
    replace Okd := own_past Okd h16
    replace Oke := own_past Oke h16
    replace B0 := B0.past h16
    replace SK := SK.past h16
    replace Hb := Lib.hid (thenB Hb.out h16)
    have t28 : w15.heap.size ≤ w16.heap.size := h16.size
    clear h16
    clear B0c0 B0c1 B0c2 SKc0 SKc1 SKc2 SKc3 SKc4 SKc5 SKc6
    have B0c0 := B0.cell 0
    have B0c1 := B0.cell 1
    have B0c2 := B0.cell 2
    have SKc0 := SK.cell 0
    have SKc1 := SK.cell 1
    have SKc2 := SK.cell 2
    have SKc3 := SK.cell 3
    have SKc4 := SK.cell 4
    have SKc5 := SK.cell 5
    have SKc6 := SK.cell 6
    simp at B0c0 B0c1 B0c2 SKc0 SKc1 SKc2 SKc3 SKc4 SKc5 SKc6
    go_wp2_with fail
    refine (HG.out.sc _).mono ?_
    rintro e w17 ⟨Ao, co, rfl, Oo, h17⟩
    replace Om := own_past Om h17
    replace Ox := own_past Ox h17
    replace Oy := own_past Oy h17
    replace Oe := own_past Oe h17
    replace Oq := own_past Oq h17
    replace Oka := own_past Oka h17
    replace Okb := own_past Okb h17
    replace Okc := own_past Okc h17
    replace Okd := own_past Okd h17
    replace Oke := own_past Oke h17
    replace B0 := B0.past h17
    replace SK := SK.past h17
    replace Hb := Lib.hid (thenB Hb.out h17)
    have t29 : w16.heap.size ≤ w17.heap.size := h17.size
    clear h17
    clear d1 d2 d3
    obtain ⟨go, rfl, _, _⟩ := ownS_head Oo (by show 0 < 4; omega)
    have o2 := ownS_cell2 Oo (j := 2) (by show 2 < 4; omega)
    have o3 := ownS_cell2 Oo (j := 3) (by show 3 < 4; omega)
    replace o2 : w17.cell? ⟨go, 2, none⟩ = some (.string TY) := o2
    replace o3 : w17.cell? ⟨go, 3, none⟩ = some (.string TM) := o3
    have gol : Hid (go < w17.heap.size) := (ownS_lt Oo _ rfl).2
    clear Oo
    have qTY : (TY.toList == TY.toList) = true := by simp
    have qTE : (TE.toList == TE.toList) = true := by simp
    have qTS : (TS.toList == TS.toList) = true := by simp
    have qTF : (TF.toList == TF.toList) = true := by simp
    have qTM : (TM.toList == TM.toList) = true := by simp
    have qN := HP.out.n0
    have hrm := HG.out.hr
    have cp := own_cap Oy
    have HCy1 : Hid (ry.length ≤ cy) := cp.1
    have HCy2 : Hid (cy ≤ 9223372036854775807) := by have := cp.2; unfold maxLen at this; exact this
    clear cp
    have cp := own_cap Oe
    have HCe1 : Hid (re.length ≤ ce) := cp.1
    have HCe2 : Hid (ce ≤ 9223372036854775807) := by have := cp.2; unfold maxLen at this; exact this
    clear cp
    have cp := own_cap Oq
    have HCq1 : Hid (rm.length ≤ cq) := cp.1
    have HCq2 : Hid (cq ≤ 9223372036854775807) := by have := cp.2; unfold maxLen at this; exact this
    clear cp
    have bx : Below w17.heap.size w17 w17.drew := (Below.refl _ _).drew
    replace Om := own_past Om bx
    replace Ox := own_past Ox bx
    replace Oy := own_past Oy bx
    replace Oe := own_past Oe bx
    replace Oq := own_past Oq bx
    replace Oka := own_past Oka bx
    replace Okb := own_past Okb bx
    replace Okc := own_past Okc bx
    replace Okd := own_past Okd bx
    replace Oke := own_past Oke bx
    replace B0 := B0.past bx
    replace SK := SK.past bx
    replace Hb := Lib.hid (thenB Hb.out bx)
    clear bx
    have t30 : w17.heap.size ≤ w17.drew.heap.size := Nat.le_refl _
    replace o2 : w17.drew.cell? ⟨go, 2, none⟩ = some (.string TY) := o2
    replace o3 : w17.drew.cell? ⟨go, 3, none⟩ = some (.string TM) := o3
    replace gol : Hid (go < w17.drew.heap.size) := gol
    clear B0c0 B0c1 B0c2 SKc0 SKc1 SKc2 SKc3 SKc4 SKc5 SKc6
    have B0c0 := B0.cell 0
    have B0c1 := B0.cell 1
    have B0c2 := B0.cell 2
    have SKc0 := SK.cell 0
    have SKc1 := SK.cell 1
    have SKc2 := SK.cell 2
    have SKc3 := SK.cell 3
    have SKc4 := SK.cell 4
    have SKc5 := SK.cell 5
    have SKc6 := SK.cell 6
    simp at B0c0 B0c1 B0c2 SKc0 SKc1 SKc2 SKc3 SKc4 SKc5 SKc6
    go_wp2_with fail
    go_region_held3 (fun w' => w'.cell? ⟨w1.heap.size, 0, none⟩ = some (.int .i64 l) ∧ w'.cell? ⟨w1.heap.size, 1, none⟩ = some (.int .i64 s) ∧ w'.cell? ⟨w1.heap.size, 2, none⟩ = some (.slice Am cs.length cm) ∧ w'.cell? ⟨w11.heap.size, 0, none⟩ = some (.int .i64 l) ∧ w'.cell? ⟨w11.heap.size, 1, none⟩ = some (.int .i64 s) ∧ w'.cell? ⟨w11.heap.size, 2, none⟩ = some (.slice Aka cs.length cka) ∧ w'.cell? ⟨w11.heap.size, 3, none⟩ = some (.slice Akb rm.length ckb) ∧ w'.cell? ⟨w11.heap.size, 4, none⟩ = some (.slice Akc N.length ckc) ∧ w'.cell? ⟨w11.heap.size, 5, none⟩ = some (.slice Akd ry.length ckd) ∧ w'.cell? ⟨w11.heap.size, 6, none⟩ = some (.slice Ake re.length cke) ∧ w'.cell? ⟨go, 2, none⟩ = some (.string TY) ∧ w'.cell? ⟨go, 3, none⟩ = some (.string TM)) (first | go_keep)
      (first
        | (go_at_call 14; clear B0c0 B0c1 B0c2 SKc0 SKc1 SKc2 SKc3 SKc4 SKc5 SKc6; have B0c0 := B0.cell 0; have B0c1 := B0.cell 1; have B0c2 := B0.cell 2; have SKc0 := SK.cell 0; have SKc1 := SK.cell 1; have SKc2 := SK.cell 2; have SKc3 := SK.cell 3; have SKc4 := SK.cell 4; have SKc5 := SK.cell 5; have SKc6 := SK.cell 6; simp at B0c0 B0c1 B0c2 SKc0 SKc1 SKc2 SKc3 SKc4 SKc5 SKc6; (with_reducible refine (HG.out.ty _ Ay cy (own_rd Oy) HCy1.out HCy2.out).mono ?_); rintro e w18 ⟨rfl, h18⟩; replace Om := own_past Om h18; replace Ox := own_past Ox h18; replace Oy := own_past Oy h18; replace Oe := own_past Oe h18; replace Oq := own_past Oq h18; replace Oka := own_past Oka h18; replace Okb := own_past Okb h18; replace Okc := own_past Okc h18; replace Okd := own_past Okd h18; replace Oke := own_past Oke h18; replace B0 := B0.past h18; replace SK := SK.past h18; replace Hb := Lib.hid (thenB Hb.out h18); replace o2 := (h18.cell (p := ⟨go, 2, none⟩) gol.out).trans o2; replace o3 := (h18.cell (p := ⟨go, 3, none⟩) gol.out).trans o3; replace gol := Lib.hid (Nat.lt_of_lt_of_le gol.out h18.size); have t31 : w17.drew.heap.size ≤ w18.heap.size := h18.size; clear h18; clear B0c0 B0c1 B0c2 SKc0 SKc1 SKc2 SKc3 SKc4 SKc5 SKc6; have B0c0 := B0.cell 0; have B0c1 := B0.cell 1; have B0c2 := B0.cell 2; have SKc0 := SK.cell 0; have SKc1 := SK.cell 1; have SKc2 := SK.cell 2; have SKc3 := SK.cell 3; have SKc4 := SK.cell 4; have SKc5 := SK.cell 5; have SKc6 := SK.cell 6; simp at B0c0 B0c1 B0c2 SKc0 SKc1 SKc2 SKc3 SKc4 SKc5 SKc6)
        | (go_at_call 14; clear B0c0 B0c1 B0c2 SKc0 SKc1 SKc2 SKc3 SKc4 SKc5 SKc6; have B0c0 := B0.cell 0; have B0c1 := B0.cell 1; have B0c2 := B0.cell 2; have SKc0 := SK.cell 0; have SKc1 := SK.cell 1; have SKc2 := SK.cell 2; have SKc3 := SK.cell 3; have SKc4 := SK.cell 4; have SKc5 := SK.cell 5; have SKc6 := SK.cell 6; simp at B0c0 B0c1 B0c2 SKc0 SKc1 SKc2 SKc3 SKc4 SKc5 SKc6; (with_reducible refine (HG.out.te _ Ae ce (own_rd Oe) HCe1.out HCe2.out).mono ?_); rintro e w19 ⟨rfl, h19⟩; replace Om := own_past Om h19; replace Ox := own_past Ox h19; replace Oy := own_past Oy h19; replace Oe := own_past Oe h19; replace Oq := own_past Oq h19; replace Oka := own_past Oka h19; replace Okb := own_past Okb h19; replace Okc := own_past Okc h19; replace Okd := own_past Okd h19; replace Oke := own_past Oke h19; replace B0 := B0.past h19; replace SK := SK.past h19; replace Hb := Lib.hid (thenB Hb.out h19); replace o2 := (h19.cell (p := ⟨go, 2, none⟩) gol.out).trans o2; replace o3 := (h19.cell (p := ⟨go, 3, none⟩) gol.out).trans o3; replace gol := Lib.hid (Nat.lt_of_lt_of_le gol.out h19.size); have t32 : w18.heap.size ≤ w19.heap.size := h19.size; clear h19; clear B0c0 B0c1 B0c2 SKc0 SKc1 SKc2 SKc3 SKc4 SKc5 SKc6; have B0c0 := B0.cell 0; have B0c1 := B0.cell 1; have B0c2 := B0.cell 2; have SKc0 := SK.cell 0; have SKc1 := SK.cell 1; have SKc2 := SK.cell 2; have SKc3 := SK.cell 3; have SKc4 := SK.cell 4; have SKc5 := SK.cell 5; have SKc6 := SK.cell 6; simp at B0c0 B0c1 B0c2 SKc0 SKc1 SKc2 SKc3 SKc4 SKc5 SKc6)
        | (go_at_call 22; clear B0c0 B0c1 B0c2 SKc0 SKc1 SKc2 SKc3 SKc4 SKc5 SKc6; have B0c0 := B0.cell 0; have B0c1 := B0.cell 1; have B0c2 := B0.cell 2; have SKc0 := SK.cell 0; have SKc1 := SK.cell 1; have SKc2 := SK.cell 2; have SKc3 := SK.cell 3; have SKc4 := SK.cell 4; have SKc5 := SK.cell 5; have SKc6 := SK.cell 6; simp at B0c0 B0c1 B0c2 SKc0 SKc1 SKc2 SKc3 SKc4 SKc5 SKc6; (with_reducible refine (HG.out.so _ Ay cy (own_rd Oy)).mono ?_); rintro e w20 ⟨rfl, rfl⟩; clear B0c0 B0c1 B0c2 SKc0 SKc1 SKc2 SKc3 SKc4 SKc5 SKc6; have B0c0 := B0.cell 0; have B0c1 := B0.cell 1; have B0c2 := B0.cell 2; have SKc0 := SK.cell 0; have SKc1 := SK.cell 1; have SKc2 := SK.cell 2; have SKc3 := SK.cell 3; have SKc4 := SK.cell 4; have SKc5 := SK.cell 5; have SKc6 := SK.cell 6; simp at B0c0 B0c1 B0c2 SKc0 SKc1 SKc2 SKc3 SKc4 SKc5 SKc6)
        | (go_at_call 21; clear B0c0 B0c1 B0c2 SKc0 SKc1 SKc2 SKc3 SKc4 SKc5 SKc6; have B0c0 := B0.cell 0; have B0c1 := B0.cell 1; have B0c2 := B0.cell 2; have SKc0 := SK.cell 0; have SKc1 := SK.cell 1; have SKc2 := SK.cell 2; have SKc3 := SK.cell 3; have SKc4 := SK.cell 4; have SKc5 := SK.cell 5; have SKc6 := SK.cell 6; simp at B0c0 B0c1 B0c2 SKc0 SKc1 SKc2 SKc3 SKc4 SKc5 SKc6; (with_reducible refine (HG.out.ns _).mono ?_); rintro e w20 ⟨rfl, h20⟩; replace Om := own_past Om h20; replace Ox := own_past Ox h20; replace Oy := own_past Oy h20; replace Oe := own_past Oe h20; replace Oq := own_past Oq h20; replace Oka := own_past Oka h20; replace Okb := own_past Okb h20; replace Okc := own_past Okc h20; replace Okd := own_past Okd h20; replace Oke := own_past Oke h20; replace B0 := B0.past h20; replace SK := SK.past h20; replace Hb := Lib.hid (thenB Hb.out h20); replace o2 := (h20.cell (p := ⟨go, 2, none⟩) gol.out).trans o2; replace o3 := (h20.cell (p := ⟨go, 3, none⟩) gol.out).trans o3; replace gol := Lib.hid (Nat.lt_of_lt_of_le gol.out h20.size); have t33 : w19.heap.size ≤ w20.heap.size := h20.size; clear h20; clear B0c0 B0c1 B0c2 SKc0 SKc1 SKc2 SKc3 SKc4 SKc5 SKc6; have B0c0 := B0.cell 0; have B0c1 := B0.cell 1; have B0c2 := B0.cell 2; have SKc0 := SK.cell 0; have SKc1 := SK.cell 1; have SKc2 := SK.cell 2; have SKc3 := SK.cell 3; have SKc4 := SK.cell 4; have SKc5 := SK.cell 5; have SKc6 := SK.cell 6; simp at B0c0 B0c1 B0c2 SKc0 SKc1 SKc2 SKc3 SKc4 SKc5 SKc6)
        | (go_at_call 23; clear B0c0 B0c1 B0c2 SKc0 SKc1 SKc2 SKc3 SKc4 SKc5 SKc6; have B0c0 := B0.cell 0; have B0c1 := B0.cell 1; have B0c2 := B0.cell 2; have SKc0 := SK.cell 0; have SKc1 := SK.cell 1; have SKc2 := SK.cell 2; have SKc3 := SK.cell 3; have SKc4 := SK.cell 4; have SKc5 := SK.cell 5; have SKc6 := SK.cell 6; simp at B0c0 B0c1 B0c2 SKc0 SKc1 SKc2 SKc3 SKc4 SKc5 SKc6; (with_reducible refine (HG.out.sa _ Am cm (own_rd Om)).mono ?_); rintro e w21 ⟨rfl, h21⟩; replace Om := own_past Om h21; replace Ox := own_past Ox h21; replace Oy := own_past Oy h21; replace Oe := own_past Oe h21; replace Oq := own_past Oq h21; replace Oka := own_past Oka h21; replace Okb := own_past Okb h21; replace Okc := own_past Okc h21; replace Okd := own_past Okd h21; replace Oke := own_past Oke h21; replace B0 := B0.past h21; replace SK := SK.past h21; replace Hb := Lib.hid (thenB Hb.out h21); replace o2 := (h21.cell (p := ⟨go, 2, none⟩) gol.out).trans o2; replace o3 := (h21.cell (p := ⟨go, 3, none⟩) gol.out).trans o3; replace gol := Lib.hid (Nat.lt_of_lt_of_le gol.out h21.size); have t34 : w20.heap.size ≤ w21.heap.size := h21.size; clear h21; clear B0c0 B0c1 B0c2 SKc0 SKc1 SKc2 SKc3 SKc4 SKc5 SKc6; have B0c0 := B0.cell 0; have B0c1 := B0.cell 1; have B0c2 := B0.cell 2; have SKc0 := SK.cell 0; have SKc1 := SK.cell 1; have SKc2 := SK.cell 2; have SKc3 := SK.cell 3; have SKc4 := SK.cell 4; have SKc5 := SK.cell 5; have SKc6 := SK.cell 6; simp at B0c0 B0c1 B0c2 SKc0 SKc1 SKc2 SKc3 SKc4 SKc5 SKc6)
        | (go_at_call 21; clear B0c0 B0c1 B0c2 SKc0 SKc1 SKc2 SKc3 SKc4 SKc5 SKc6; have B0c0 := B0.cell 0; have B0c1 := B0.cell 1; have B0c2 := B0.cell 2; have SKc0 := SK.cell 0; have SKc1 := SK.cell 1; have SKc2 := SK.cell 2; have SKc3 := SK.cell 3; have SKc4 := SK.cell 4; have SKc5 := SK.cell 5; have SKc6 := SK.cell 6; simp at B0c0 B0c1 B0c2 SKc0 SKc1 SKc2 SKc3 SKc4 SKc5 SKc6; (with_reducible refine (HG.out.nf _).mono ?_); rintro e w22 ⟨rfl, h22⟩; replace Om := own_past Om h22; replace Ox := own_past Ox h22; replace Oy := own_past Oy h22; replace Oe := own_past Oe h22; replace Oq := own_past Oq h22; replace Oka := own_past Oka h22; replace Okb := own_past Okb h22; replace Okc := own_past Okc h22; replace Okd := own_past Okd h22; replace Oke := own_past Oke h22; replace B0 := B0.past h22; replace SK := SK.past h22; replace Hb := Lib.hid (thenB Hb.out h22); replace o2 := (h22.cell (p := ⟨go, 2, none⟩) gol.out).trans o2; replace o3 := (h22.cell (p := ⟨go, 3, none⟩) gol.out).trans o3; replace gol := Lib.hid (Nat.lt_of_lt_of_le gol.out h22.size); have t35 : w21.heap.size ≤ w22.heap.size := h22.size; clear h22; clear B0c0 B0c1 B0c2 SKc0 SKc1 SKc2 SKc3 SKc4 SKc5 SKc6; have B0c0 := B0.cell 0; have B0c1 := B0.cell 1; have B0c2 := B0.cell 2; have SKc0 := SK.cell 0; have SKc1 := SK.cell 1; have SKc2 := SK.cell 2; have SKc3 := SK.cell 3; have SKc4 := SK.cell 4; have SKc5 := SK.cell 5; have SKc6 := SK.cell 6; simp at B0c0 B0c1 B0c2 SKc0 SKc1 SKc2 SKc3 SKc4 SKc5 SKc6)
        | (go_at_call 16; clear B0c0 B0c1 B0c2 SKc0 SKc1 SKc2 SKc3 SKc4 SKc5 SKc6; have B0c0 := B0.cell 0; have B0c1 := B0.cell 1; have B0c2 := B0.cell 2; have SKc0 := SK.cell 0; have SKc1 := SK.cell 1; have SKc2 := SK.cell 2; have SKc3 := SK.cell 3; have SKc4 := SK.cell 4; have SKc5 := SK.cell 5; have SKc6 := SK.cell 6; simp at B0c0 B0c1 B0c2 SKc0 SKc1 SKc2 SKc3 SKc4 SKc5 SKc6; (with_reducible refine (ints_self Akb Aq ckb cq rm _ (own_rd Okb) (own_rd Oq) hrm).mono ?_); rintro e w23 ⟨rfl, h23⟩; replace Om := own_past Om h23; replace Ox := own_past Ox h23; replace Oy := own_past Oy h23; replace Oe := own_past Oe h23; replace Oq := own_past Oq h23; replace Oka := own_past Oka h23; replace Okb := own_past Okb h23; replace Okc := own_past Okc h23; replace Okd := own_past Okd h23; replace Oke := own_past Oke h23; replace B0 := B0.past h23; replace SK := SK.past h23; replace Hb := Lib.hid (thenB Hb.out h23); replace o2 := (h23.cell (p := ⟨go, 2, none⟩) gol.out).trans o2; replace o3 := (h23.cell (p := ⟨go, 3, none⟩) gol.out).trans o3; replace gol := Lib.hid (Nat.lt_of_lt_of_le gol.out h23.size); have t36 : w22.heap.size ≤ w23.heap.size := h23.size; clear h23; clear B0c0 B0c1 B0c2 SKc0 SKc1 SKc2 SKc3 SKc4 SKc5 SKc6; have B0c0 := B0.cell 0; have B0c1 := B0.cell 1; have B0c2 := B0.cell 2; have SKc0 := SK.cell 0; have SKc1 := SK.cell 1; have SKc2 := SK.cell 2; have SKc3 := SK.cell 3; have SKc4 := SK.cell 4; have SKc5 := SK.cell 5; have SKc6 := SK.cell 6; simp at B0c0 B0c1 B0c2 SKc0 SKc1 SKc2 SKc3 SKc4 SKc5 SKc6)
        | (go_at_call 14; clear B0c0 B0c1 B0c2 SKc0 SKc1 SKc2 SKc3 SKc4 SKc5 SKc6; have B0c0 := B0.cell 0; have B0c1 := B0.cell 1; have B0c2 := B0.cell 2; have SKc0 := SK.cell 0; have SKc1 := SK.cell 1; have SKc2 := SK.cell 2; have SKc3 := SK.cell 3; have SKc4 := SK.cell 4; have SKc5 := SK.cell 5; have SKc6 := SK.cell 6; simp at B0c0 B0c1 B0c2 SKc0 SKc1 SKc2 SKc3 SKc4 SKc5 SKc6; (with_reducible refine (HG.out.tm _ Aq cq (own_rd Oq) HCq1.out HCq2.out).mono ?_); rintro e w24 ⟨rfl, h24⟩; replace Om := own_past Om h24; replace Ox := own_past Ox h24; replace Oy := own_past Oy h24; replace Oe := own_past Oe h24; replace Oq := own_past Oq h24; replace Oka := own_past Oka h24; replace Okb := own_past Okb h24; replace Okc := own_past Okc h24; replace Okd := own_past Okd h24; replace Oke := own_past Oke h24; replace B0 := B0.past h24; replace SK := SK.past h24; replace Hb := Lib.hid (thenB Hb.out h24); replace o2 := (h24.cell (p := ⟨go, 2, none⟩) gol.out).trans o2; replace o3 := (h24.cell (p := ⟨go, 3, none⟩) gol.out).trans o3; replace gol := Lib.hid (Nat.lt_of_lt_of_le gol.out h24.size); have t37 : w23.heap.size ≤ w24.heap.size := h24.size; clear h24; clear B0c0 B0c1 B0c2 SKc0 SKc1 SKc2 SKc3 SKc4 SKc5 SKc6; have B0c0 := B0.cell 0; have B0c1 := B0.cell 1; have B0c2 := B0.cell 2; have SKc0 := SK.cell 0; have SKc1 := SK.cell 1; have SKc2 := SK.cell 2; have SKc3 := SK.cell 3; have SKc4 := SK.cell 4; have SKc5 := SK.cell 5; have SKc6 := SK.cell 6; simp at B0c0 B0c1 B0c2 SKc0 SKc1 SKc2 SKc3 SKc4 SKc5 SKc6)
        | fail)
    go_wp2_with fail
    go_ret
    exact ⟨rfl, Hb.out⟩
set_option maxRecDepth 100000 in
theorem lifted (os : Os) (started : os.Started) (H : Type) (enc : TypeId × Value → H) :
    ReturnsInHanded {} Tryz.checked os 3 .any (fun w args => (Rows.fnBenchSpec.pre enc Tryz.prog Tryz.f3 [] false w args ∧ laidMetH Tryz.prog Rows.fnBenchRow.laid w) ∧ sizedMet enc Tryz.prog Tryz.f3 (OpenSpec.ofChange Rows.fnBenchSpec) false w args) (Rows.fnBenchSpec.post enc Tryz.prog Tryz.f3 false true false false) := by
  refine returnsInHanded_of_change_and (C := Tryz.checked) (X := fun w _ => laidMetH Tryz.prog Rows.fnBenchRow.laid w) (fun _ _ _ hh h => h.of_heap hh) own started (by kernel_rfl) Tryz.func3
    (ChangeSpec.witness_shaped (enc := enc) (C := Tryz.checked) (os := os) (X := fun w _ => laidMetH Tryz.prog Rows.fnBenchRow.laid w) false (World.laidAll Tryz.prog os Rows.fnBenchRow.laid) #[.slice none 0 0] 8 (World.laidAll_os _ _ _)
      (World.shaped_of_ZipB (by kernel_rfl) (by kernel_rfl)) (by kernel_rfl) (by kernel_rfl) (by kernel_rfl)
      (by rw [MakeChecks.laidMetH_plain _ _ _ (by kernel_rfl)]; exact laidMet_laidAll _ (by kernel_rfl) (by kernel_rfl))) ?_
  intro W base args ds gs before hval0 hW hcnd _ hL _
  have hval : ∀ (j : Nat) t v, Tryz.f3.params[j]? = some t → args[j]? = some v → Value.okWide Tryz.prog W .any base t v := hval0
  have hW' := hW
  obtain ⟨p, q, hA0, hV, rfl, hfz, hnd⟩ := hW
  have hA : DataW.TrodAll enc Tryz.prog W 0 (fun _ => true) true Tryz.f3.params.toList args.toList ds p := hA0
  rw [Tryz.params3] at hA hval
  obtain ⟨v0, vs0, d0, ds0, p0, q0, hargs, rfl, rfl, h0, g0⟩ := trodAll_cons hA
  obtain ⟨rfl, rfl, rfl⟩ := trodAll_nil g0
  obtain rfl : args = #[v0] := by cases args; simp_all
  obtain ⟨rfl, rfl⟩ := trodVars_none hV
  have k0 := h0
  have lt0 : ∀ x ∈ p0, x.block < W.heap.size := by obtain ⟨m, hm⟩ := k0; exact DataW.trod_lt m _ _ _ hm
  obtain ⟨A0, z0, c0, rfl, l0, m0, r0⟩ := arg_bytes Tryz.underlying22 Tryz.underlying5 (by kernel_rfl) (hval 0 22 v0 rfl rfl) h0
  clear hA0 hval0
  refine (walkw W A0 z0 c0 l0 m0 r0).mono fun e W' ⟨he, bel⟩ => ?_
  subst he
  exact ⟨_, rfl, _, _, _, [], _, [], hW', trodAll_mk1 (shut_bool Tryz.underlying4 _), (trodAll_cons_mk (Below.trod laidOut (by kernel_rfl) (of_decide_eq_true (by kernel_rfl)) k0 bel lt0) trodAll_mk0), rfl, bel.frame _, fun h => by cases h⟩
theorem over : Rows.fnBenchRow.holds Tryz.pinned (OpenSpec.ofChange Rows.fnBenchSpec) :=
  OpenClaim.holds_of_wide 3 Tryz.f3 rfl rfl rfl rfl rfl rfl rfl ⟨rfl, rfl, rfl, rfl, rfl⟩ rfl rfl rfl rfl rfl (by kernel_rfl) Tryz.func3 (by kernel_rfl)
    (of_decide_eq_true (by kernel_rfl)) (by unfold Func.isWrapper; first | (rw [if_pos (by decide +kernel)]; kernel_rfl) | (rw [if_neg (by decide +kernel)]; exact ⟨rfl, rfl⟩))
    (fun os started H enc _ => lifted os started H enc)
theorem proved : Rows.FnBenchCardSaid :=
  Claim7.holds_tied_plain_at .later [] [.data, .pinned] true (true, "1e1d051e5047a546fec0260843cf2203a02e44aa68992d1d67ab16c862c3e664") false over (fun _ h => by cases h) (by kernel_rfl) (fun _ h => by cases h) fnBench_row_tie rfl ⟨rfl, rfl⟩ (by kernel_rfl) rfl
    (fun f fn hf hfn => by
      obtain rfl : f = 3 := Option.some.inj ((show Tryz.prog.funcNamed "loop.example/g03228/laws.FnBench" = some 3 by kernel_rfl).symm.trans hf) |>.symm
      obtain rfl : fn = Tryz.f3 := (Option.some.inj (Tryz.func3.symm.trans hfn)).symm
      exact ⟨by kernel_rfl, fun j t ht => by
        rw [Tryz.params3] at ht
        have hm : t ∈ [22] := by simpa using Array.mem_of_getElem? ht
        have hall : ([22].all fun u => !Tryz.prog.wantsStandIn u) = true := by kernel_rfl
        exact (show Tryz.prog.wantsStandIn t = false by simpa using List.all_eq_true.1 hall t hm)⟩)
    (by kernel_rfl)

end Go.Proofs.YtgkijkenbjjnmaaGreatDoor.benchLaw
