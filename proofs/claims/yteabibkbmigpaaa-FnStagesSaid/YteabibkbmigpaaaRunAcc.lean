/- Contracts of the two RunAccumulator and the two RestsOf. -/
import Derived.Test.YteabibkbmigpaaaMatRun
import Derived.Test.YteabibkbmigpaaaPRun2
import Derived.Test.YteabibkbmigpaaaStep
import Derived.Test.YteabibkbmigpaaaCopy
import Derived.Test.YteabibkbmigpaaaSComb
import Derived.Deep.RegionLaw
import Derived.Deep.AppendLies
namespace Go.Proofs.Yteabibkbmigpaaa
open Go.RowKit
set_option linter.unusedVariables false
set_option linter.unusedSimpArgs false
def RetRun (w : World) (R : Run) (e : Ending) (w' : World) : Prop :=
  ∃ A c rs A1 c1 A2 c2, e = .returned (.tuple #[.slice A (rs : List Rw).length c, .slice A1 R.y.length c1, .slice A2 R.s.length c2, .bool R.ok]) ∧ lists rs = R.c ∧ OwnM w' w.heap.size A c rs ∧ Own w' w.heap.size A1 c1 R.y ∧ Own w' w.heap.size A2 c2 R.s ∧
    Apart A1 A2 ∧ (∀ r ∈ rs, Apart r.A A1) ∧ (∀ r ∈ rs, Apart r.A A2) ∧ Apart A A1 ∧ Apart A A2 ∧ Below w.heap.size w w'
theorem results_tmp4 {fn : Func} {t u v x : Tmp} (h : fn.results = #[.tmp t, .tmp u, .tmp v, .tmp x]) (tmps : Array Value) (P : Program) (w : World) :
    (results fn tmps).run P w = .ok (.tuple #[tmps.getD t undef, tmps.getD u undef, tmps.getD v undef, tmps.getD x undef]) w := by simp [results, h]
theorem ownM_nil (w : World) (B : Nat) : OwnM w B none 0 [] := ⟨World.ownsRow_nil w B _ _, fun r hr => (by cases hr), fun i j hi => absurd hi (by simp), fun r hr => by cases hr⟩
theorem retRun_no {w w' : World} (hb : Below w.heap.size w w') : RetRun w ⟨[], [], [], false⟩ (.returned (.tuple #[.slice none 0 0, .slice none 0 0, .slice none 0 0, .bool false])) w' :=
  ⟨none, 0, [], none, 0, none, 0, rfl, rfl, ownM_nil _ _, own_nil _ _, own_nil _ _, (fun a a' e => by cases e), (fun r hr => by cases hr), (fun r hr => by cases hr), (fun a a' e => by cases e), (fun a a' e => by cases e), hb⟩
theorem at_row {rs : List Rw} {xss : List (List Int)} {j : Nat} {xs : List Int} (h : lists rs = xss) (hx : xss[j]? = some xs) (hj : j < rs.length) : rs[j].xs = xs := by
  subst h
  simp only [lists, List.getElem?_map, List.getElem?_eq_getElem hj, Option.map_some] at hx
  exact Option.some.inj hx
set_option maxHeartbeats 4000000 in
theorem implRun_yes (A : Option Addr) (m : Int) (c : Nat) (s : List Int) (A' : Option Addr) (c' : Nat) (xs : List Int) (w : World) (hr : Rd w w.heap.size A s) (hr' : Rd w w.heap.size A' xs) (hrs : restsOk s.length m s = true) (hx : xs.all (restB m) = true) (hn : xs.length ≤ 1000) :
    Calls Try.prog 19 #[.agg #[.int .i64 s.length, .int .i64 m], .slice A s.length c, .slice A' xs.length c'] w (RetRun w (runYes m s xs)) := by
  obtain ⟨⟨⟨_, ho⟩, hm1, hm2⟩, _, hv⟩ := restsOk_parts hrs
  have hs : Hid (Rests m s) := hv
  have hX : Hid (Rests m xs) := all_rests hx
  have hl6 : s.length ≤ 6 := by omega
  have B0 := Blk.new w 24 #[.int .i64 s.length, .int .i64 m]
  have hb0 : Below w.heap.size w (w.alloc (.cells #[.int .i64 s.length, .int .i64 m] 24)) := (Below.refl _ _).alloc (Nat.le_refl _) _
  have R0 := hr.past hb0
  have X0 := hr'.past hb0
  have hg : w.heap.size < (w.alloc (.cells #[.int .i64 s.length, .int .i64 m] 24)).heap.size := by simp
  have Hb := Lib.hid hb0
  have hmk := make_rows s.length (by omega)
  clear hb0 hv ho
  go_enter Try.func19, Try.ntmps19
  go_wp2_with fail
  refine (implIsRests_any _ _ _ _ _ _ R0 (by omega)).mono ?_; rintro e w1 ⟨rfl, h1⟩
  have B1 := B0.past h1
  have X1 := X0.past h1
  replace Hb := Lib.hid (thenB Hb.out h1)
  have c0 := B1.cell 0
  have c1 := B1.cell 1
  simp at c0 c1
  have hg1 : w.heap.size < w1.heap.size := by have := h1.size; omega
  clear h1 B0 R0 X0 hg
  go_wp2_with fail
  refine (allRests_any _ _ _ _ _ _ X1 (by omega)).mono ?_; rintro e w2 ⟨rfl, h2⟩
  have B2 := B1.past h2
  replace Hb := Lib.hid (thenB Hb.out h2)
  have hg2 : w.heap.size < w2.heap.size := by have := h2.size; omega
  clear h2 B1 c0 c1 X1 hg1
  have c0 := B2.cell 0
  simp at c0
  have hbm : Below w2.heap.size w2 (w2.alloc (.cells (madeCells #[.slice none 0 0] s.length) 26)) := (Below.refl _ _).alloc (Nat.le_refl _) _
  have OM := ownM_made w2 s.length (w.heap.size + 1) (by omega) (by simp only [maxLen]; omega)
  replace Hb := Lib.hid (thenB Hb.out hbm)
  have R3 := hr.past Hb.out
  have B3 := B2.past hbm
  have hx1000 : ¬ 1000 < xs.length := by omega
  clear B2 hbm
  go_wp2_with fail
  refine (clone_any _ _ _ _ R3 (by omega)).mono ?_; rintro e w4 ⟨A4, c4, rfl, O4, h4⟩
  have B4 := Lib.hid (B3.past h4)
  replace OM := Lib.hid (OM.past h4)
  replace Hb := Lib.hid (thenB Hb.out h4)
  have X4 := Lib.hid (hr'.past Hb.out)
  have OO4 := Lib.hid (own_mono O4 (show w.heap.size + 1 ≤ _ by simp; omega))
  have U4 : Hid (Lo A4 (w2.heap.size + 1)) := by have := own_lo O4; simpa [Hid] using this
  have hg4 : w2.heap.size < w4.heap.size := by have := h4.size; simp at this; omega
  clear B3 R3 h4 O4 c0 hx1000
  go_wp2_with fail
  go_loopw [11, 42] (fun q i wr => ∃ (k : Nat) (A1 : Option Addr) (c1 : Nat) (rs : List Rw), k ≤ xs.length ∧ i = .int .i64 k ∧ q = .slice A1 s.length c1 ∧ Hid (lists rs = cRows m s xs s.length k) ∧ Hid (OwnM wr (w.heap.size + 1) (some ⟨w2.heap.size, 0, none⟩) s.length rs) ∧ Hid (Own wr (w.heap.size + 1) A1 c1 (stX m s xs k)) ∧ Hid ((∀ r ∈ rs, Apart r.A A1) ∧ Apart (some ⟨w2.heap.size, 0, none⟩) A1) ∧ Hid (Blk wr w.heap.size 24 #[.int .i64 s.length, .int .i64 m]) ∧ Hid (Below w.heap.size w wr)) (fun _ i _ => xs.length - (intOf i).toNat)
  case atStart => exact ⟨0, A4, c4, List.replicate s.length nilRw, by omega, rfl, rfl, by simp [Hid, lists, cRows, crow, nilRw, List.map_const'], OM.out, OO4.out, ⟨fun r hr' => (by obtain rfl := List.eq_of_mem_replicate hr'; intro a a' e; cases e), apart_lt (n := w2.heap.size + 1) (fun a e => by injection e with e; subst e; simp) U4.out (Nat.le_refl _)⟩, B4.out, Hb.out⟩
  case round =>
    clear OM B4 Hb X4 OO4 U4 hg4
    obtain ⟨k, A1, c1, rs, hk, rfl, rfl, hL, hO, hN, hA, BB, hB⟩ := hrel
    by_cases hlt : k < xs.length
    · obtain ⟨ad, rfl, hbl, hcell⟩ := hr'.at_ hlt
      have hc1 : wr.cell? (ad.add k) = some (.int .i64 (xs.getD k 0)) := (hB.out.cell (by rw [block_add]; exact hbl)).trans (hcell k hlt)
      have e0 := BB.out.cell 0
      have e1 := BB.out.cell 1
      simp at e0 e1
      have hxk := hX.out _ (List.getElem_mem hlt)
      have hlen := stX_length m s xs k
      have hst := stX_rests hm1 hs.out hX.out k
      have hrs' : restsOk s.length m (stX m s xs k) = true := by
        simp only [restsOk, Bool.and_eq_true] at hrs ⊢
        exact ⟨⟨hrs.1.1, by simp [hlen]⟩, rests_all hst⟩
      have hcall := implStep_yes A1 s.length m c1 (stX m s xs k) xs[k] wr (own_rd hN.out) (by omega) hrs' hxk.1 hxk.2
      have hgx := getD_at hlt
      have eN : stepN m (stX m s xs k) xs[k] = stX m s xs (k + 1) := by rw [stX, hgx]
      have hlN := stX_length m s xs (k + 1)
      have hlC := stepC_length m (stX m s xs k) xs[k]
      rw [hlen] at hcall hlC
      rw [eN] at hcall
      have hcj : ∀ j, j < s.length → (stepC m (stX m s xs k) xs[k]).getD j 0 = carr m s xs j k := fun j _ => by unfold carr; rw [hgx]
      obtain ⟨C, hCe⟩ : ∃ C, C = stepC m (stX m s xs k) xs[k] := ⟨_, rfl⟩
      obtain ⟨N, hNe⟩ : ∃ N, N = stX m s xs (k + 1) := ⟨_, rfl⟩
      rw [← hCe] at hcall hlC hcj
      rw [← hNe] at hcall hlN
      have HNe := Lib.hid hNe
      have HlC := Lib.hid hlC
      have HlN := Lib.hid hlN
      have Hcj := Lib.hid hcj
      have hsC : s.length ≤ C.length := by omega
      have Hc : Hid (Calls Try.prog 29 #[.agg #[.int .i64 s.length, .int .i64 m], .slice A1 s.length c1, .int .i64 xs[k]] wr (RetLLB wr ⟨C, N, true⟩)) := hcall
      have hgw : w2.heap.size < wr.heap.size := hO.out.his.1 _ rfl
      clear hcall hrs' hst hlen hgx eN hlN hlC hcj hCe hNe hcell hxk
      obtain ⟨wo, hwo⟩ : ∃ wo : World, wo = wr := ⟨_, rfl⟩
      subst hwo
      go_wp2_with fail
      refine (show Calls Try.prog 29 #[.agg #[.int .i64 s.length, .int .i64 m], .slice A1 s.length c1, .int .i64 xs[k]] wo (RetLLB wo ⟨C, N, true⟩) from Hc).mono ?_
      rintro e w3 ⟨A2, c2, A3, c3, rfl, O2, O3, ap, h3⟩
      have hO3 := Lib.hid (hO.out.past h3)
      have OO2 := Lib.hid O2
      have OO3 := Lib.hid O3
      have B3 := Lib.hid (BB.out.past h3)
      have hB3 := Lib.hid (hB.out.trans (h3.mono hB.out.size))
      have L2 : Hid (Lo A2 wo.heap.size) := own_lo O2
      have L3 : Hid (Lo A3 wo.heap.size) := own_lo O3
      have r2 : Hid (∀ r ∈ rs, Apart r.A A2) := fun r hr => apart_lt (hO.out.his.2 r hr) L2.out (Nat.le_refl _)
      have r3 : Hid (∀ r ∈ rs, Apart r.A A3) := fun r hr => apart_lt (hO.out.his.2 r hr) L3.out (Nat.le_refl _)
      have AP := Lib.hid ap
      have hL0 : Hid (lists rs = cPart m s xs s.length k 0) := by show _ = _; rw [cPart_start]; exact hL.out
      rw [show (LL.mk C N true).c.length = s.length from HlC.out, show (LL.mk C N true).n.length = s.length from HlN.out]
      clear O2 O3 ap h3 e0 e1 hc1 hL hO hN hA BB hB
      go_wp2_with fail
      go_loopw [57] (fun i wq => ∃ (j : Nat) (qs : List Rw), j ≤ s.length ∧ i = .int .i64 j ∧ Hid (lists qs = cPart m s xs s.length k j) ∧ Hid (OwnM wq (w.heap.size + 1) (some ⟨w2.heap.size, 0, none⟩) s.length qs) ∧ Hid (Own wq wo.heap.size A2 c2 C) ∧ Hid (Own wq wo.heap.size A3 c3 N) ∧ Hid (∀ r ∈ qs, Apart r.A A2) ∧ Hid (∀ r ∈ qs, Apart r.A A3) ∧ Hid (Blk wq w.heap.size 24 #[.int .i64 s.length, .int .i64 m]) ∧ Hid (Below w.heap.size w wq)) (fun i _ => s.length - (intOf i).toNat)
      case atStart => exact ⟨0, rs, by omega, rfl, hL0.out, hO3.out, OO2.out, OO3.out, r2.out, r3.out, B3.out, hB3.out⟩
      case round =>
        clear hL0 hO3 OO2 OO3 r2 r3 B3 hB3
        obtain ⟨j, qs, hj, rfl, hL, hO, hC2, hN3, a2, a3, BB, hB⟩ := hrel
        by_cases hlt2 : j < s.length
        · have hql : qs.length = s.length := by rw [← lists_length qs, hL.out, cPart_length]
          have hjq : j < qs.length := by omega
          have hjC : j < C.length := by omega
          obtain ⟨gc, rfl, hgl, hgc⟩ := own_head hC2.out hjC
          have e1 := own_cell hC2.out hjC
          have d1 : wr.cell? ⟨w2.heap.size, j, none⟩ = some (.slice qs[j].A qs[j].xs.length qs[j].c) := hO.out.cell hjq
          have f1 := hO.out.frozen j
          have hrow := at_row hL.out (cPart_at m s xs hlt2) hjq
          rw [if_neg (by omega)] at hrow
          have hrl : qs[j].xs.length = k := by rw [hrow, crow_length]
          rw [hrl] at d1
          have oj := hO.out.row _ (List.getElem_mem hjq)
          rw [hrow] at oj
          have hcv := Hcj.out j hlt2
          rw [getD_at hjC] at hcv
          have Hcv := Lib.hid hcv
          have Oj := Lib.hid oj
          have Hrow := Lib.hid hrow
          have HL := Lib.hid hql
          have hgq : w2.heap.size < wr.heap.size := hO.out.his.1 _ rfl
          have e1' : wr.cell? ⟨gc, j, none⟩ = some (.int .i64 C[j]) := by rw [e1, getD_at hjC]
          have n1 : Hid (some w2.heap.size ≠ row qs[j].A) := by
            have := hO.out.off _ (List.getElem_mem hjq)
            cases hA : qs[j].A with
            | none => simp [Hid, row]
            | some a => have := this _ a rfl hA; simpa [Hid, row] using this
          have n2 : Hid (some gc ≠ row qs[j].A) := by
            have := a2.out _ (List.getElem_mem hjq)
            cases hA : qs[j].A with
            | none => simp [Hid, row]
            | some a => have := this a _ hA rfl; simp [Hid, row]; exact fun e => this e.symm
          clear hrow hrl oj hcv hql
          go_wp2_with fail
          have hbX : Below wr.heap.size wr (wr.alloc (.cells #[.int .i64 C[j]] 3)).drew := ((Below.refl _ _).alloc (Nat.le_refl _) _).drew
          go_region_law
            ((refine step_app (by rfl) (.tmp 65) (.tmp 70) (by rfl) (w.heap.size + 1) qs[j].A qs[j].c k (crow m s xs j k) (crow_length _ _ _ _ _) (by rfl) (own_past Oj.out hbX) wr.heap.size C[j] (by rfl) (by simp) (by omega) (by have := hB.out.size; simp; omega) ?_; intro A5 c5 w5 O5 hw5 mv5; have d5 := (World.grownBy.cell_far hw5 ⟨w2.heap.size, j, none⟩ (by simp; omega) n1.out).trans ((hbX.cell hgq).trans d1); have e5 := (World.grownBy.cell_far hw5 ⟨gc, j, none⟩ (by simp; omega) n2.out).trans ((hbX.cell hgc).trans e1'); have f5 := (World.grownBy.frozen_far hw5 ⟨w2.heap.size, j, none⟩ (by simp; omega) n1.out).trans ((hbX.frozen hgq).trans f1)))
          all_goals
            have hX := Lib.hid (hO.out.past hbX)
            have hXC := Lib.hid (own_past hC2.out hbX)
            have hXN := Lib.hid (own_past hN3.out hbX)
            have hXB := Lib.hid (BB.out.past hbX)
            have hXb := Lib.hid (hB.out.trans (hbX.mono hB.out.size))
            have hSz : Hid (w.heap.size ≤ (wr.alloc (.cells #[.int .i64 C[j]] 3)).drew.heap.size) := hXb.out.size
            have hst := Lib.hid (hX.out.reset hjq hw5 O5 mv5)
            have hlen5 : Hid ((crow m s xs j k ++ [C[j]]).length = k + 1) := by simp [Hid, crow_length]
            have hst2 : Hid (OwnM (w5.setCell ⟨w2.heap.size, j, none⟩ (.slice A5 (k + 1) c5)) (w.heap.size + 1) (some ⟨w2.heap.size, 0, none⟩) s.length (qs.set j ⟨A5, c5, crow m s xs j k ++ [C[j]]⟩)) := by
              have := hst.out
              rw [hlen5.out] at this
              exact this
            have hL2 : Hid (lists (qs.set j ⟨A5, c5, crow m s xs j k ++ [C[j]]⟩) = cPart m s xs s.length k (j + 1)) := by
              show _ = _
              rw [lists_set, hL.out, Hcv.out, cPart_step m s xs hlt2]
            have hqm := List.getElem_mem hjq
            have p1 := Lib.hid (own_wrote hXC.out hw5 (apart_symm (a2.out _ hqm)))
            have p2 := Lib.hid (own_wrote hXN.out hw5 (apart_symm (a3.out _ hqm)))
            have p3 := Lib.hid (blk_wrote hXB.out hw5 (hX.out.los.2 _ hqm) (by omega))
            have p4 := Lib.hid (below_app hXb.out hw5 (own_mono (hX.out.row _ hqm) (by omega)) hSz.out)
            have q2 := Lib.hid (reset_apart (c' := c5) (ys := crow m s xs j k ++ [C[j]]) hjq mv5 (own_hi hXC.out) a2.out)
            have q3 := Lib.hid (reset_apart (c' := c5) (ys := crow m s xs j k ++ [C[j]]) hjq mv5 (own_hi hXN.out) a3.out)
            have hw2 : w.heap.size < w2.heap.size := hg2
            clear hX hXC hXN hXB hXb hst O5 hw5 mv5 d5 e5 f5 d1 e1 e1' f1 hbX hqm
            go_wp2
            go_roundw
            case rel => exact ⟨j + 1, _, by omega, by go_num, hL2.out, hst2.out, ownsRow_setCell_below p1.out hgw _, ownsRow_setCell_below p2.out hgw _, q2.out, q3.out, p3.out.far (by simp; omega) _, p4.out.setCell (by simp; omega) _⟩
            case measure => simp [intOf]; omega
        · obtain rfl : j = s.length := by omega
          have hL2 : Hid (lists qs = cRows m s xs s.length (k + 1)) := by show _ = _; rw [hL.out, cPart_end m s xs _ _ _ (Nat.le_refl _)]
          have hN4 : Hid (Own wr (w.heap.size + 1) A3 c3 (stX m s xs (k + 1))) := by rw [← HNe.out]; exact own_mono hN3.out (by omega)
          have hap := Lib.hid (apart_lt (A := some ⟨w2.heap.size, 0, none⟩) (n := w2.heap.size + 1) (fun a e => by injection e with e; subst e; simp) L3.out (by omega))
          clear hL hC2 hN3 a2
          go_wp2
          go_roundw
          case rel => exact ⟨k + 1, A3, c3, qs, by omega, by go_num, rfl, hL2.out, hO.out, hN4.out, ⟨a3.out, hap.out⟩, BB.out, hB.out⟩
          case measure => simp [intOf]; omega
    · obtain rfl : k = xs.length := by omega
      have hcr := Lib.hid (combine_rows hm1 hs.out hX.out (by have := (restsOk_parts hrs).1.1; omega) hl6 hn)
      have hrl : Hid (∀ r ∈ rs, r.xs.length ≤ 1048576) := fun r hr => by
        have : r.xs ∈ lists rs := by simp only [lists, List.mem_map]; exact ⟨r, hr, rfl⟩
        rw [hL.out] at this
        have := cRows_mem this
        omega
      have hrsl : rs.length = s.length := by rw [← lists_length rs, hL.out, cRows_length]
      have hcall := implCombineCarries_any (some ⟨w2.heap.size, 0, none⟩) s.length rs wr hO.out.rdm hrl.out (by omega)
      rw [hL.out, hcr.out, hrsl] at hcall
      have Hc := Lib.hid hcall
      have Hl := Lib.hid hrsl
      have hlN := Lib.hid (stX_length m s xs xs.length)
      have hlY : Hid ((combTo xs.length (cRows m s xs s.length xs.length) s.length).length = xs.length) := by rw [run_y]; exact lst_length _ _
      clear hcall hrsl
      go_wp2_with fail
      refine Hc.out.mono ?_
      rintro e w5 ⟨A5, c5, rfl, O5, h5⟩
      have hO5 := hO.out.past h5
      have hN5 := own_past hN.out h5
      have hB5 := hB.out.trans (h5.mono hB.out.size)
      have ap1 := apart_gt (own_lo O5) (own_hi hN.out) (Nat.le_refl _)
      have ap2 : ∀ r ∈ rs, Apart r.A A5 := fun r hr => apart_lt (hO.out.his.2 r hr) (own_lo O5) (Nat.le_refl _)
      have ap3 := apart_lt hO.out.his.1 (own_lo O5) (Nat.le_refl _)
      have hO6 := own_mono O5 hB.out.size
      go_wp2_with fail
      refine bodyPost_ret (results_tmp4 rfl _ _ _) rfl ?_
      refine ⟨some ⟨w2.heap.size, 0, none⟩, s.length, rs, A5, c5, A1, c1, ?_, hL.out, hO5.more (by omega), hO6, own_mono hN5 (by omega), ap1, ap2, hA.out.1, ap3, hA.out.2, hB5⟩
      rw [Hl.out, show (runYes m s xs).s.length = s.length from hlN.out]
      rfl
theorem runOk_split {o m : Int} {s xs : List Int} (h : runOk o m s xs = false) : restsOk o m s = false ∨ (restsOk o m s = true ∧ xs.all (restB m) = false) ∨ (restsOk o m s = true ∧ xs.all (restB m) = true ∧ 1000 < xs.length) := by
  rcases Bool.eq_false_or_eq_true (restsOk o m s) with h1 | h1
  · rcases Bool.eq_false_or_eq_true (xs.all (restB m)) with h2 | h2
    · simp only [runOk, h1, h2, Bool.true_and, decide_eq_false_iff_not] at h
      exact .inr (.inr ⟨h1, h2, by omega⟩)
    · exact .inr (.inl ⟨h1, h2⟩)
  · exact .inl h1
set_option maxHeartbeats 1000000 in
theorem implRunAccumulator_any (A : Option Addr) (o m : Int) (c : Nat) (s : List Int) (A' : Option Addr) (c' : Nat) (xs : List Int) (w : World) (hr : Rd w w.heap.size A s) (hn : s.length ≤ 1048576) (hr' : Rd w w.heap.size A' xs) (hn' : xs.length ≤ 1048576) :
    Calls Try.prog 19 #[.agg #[.int .i64 o, .int .i64 m], .slice A s.length c, .slice A' xs.length c'] w (RetRun w (runA o m s xs)) := by
  rcases Bool.eq_false_or_eq_true (runOk o m s xs) with hok | hok
  · obtain ⟨h1, h2, h3⟩ := runOk_parts hok
    obtain ⟨_, hlo, _⟩ := restsOk_parts h1
    rw [runA_yes hok]
    subst hlo
    exact implRun_yes A m c s A' c' xs w hr hr' h1 h2 h3
  · rw [runA_no hok]
    have B0 := Blk.new w 24 #[.int .i64 o, .int .i64 m]
    have hb0 : Below w.heap.size w (w.alloc (.cells #[.int .i64 o, .int .i64 m] 24)) := (Below.refl _ _).alloc (Nat.le_refl _) _
    have R0 := hr.past hb0
    have X0 := hr'.past hb0
    have Hb := Lib.hid hb0
    clear hb0
    rcases runOk_split hok with h1 | ⟨h1, h2⟩ | ⟨h1, h2, h3⟩
    · clear hok
      go_enter Try.func19, Try.ntmps19
      go_wp2_with fail
      refine (implIsRests_any _ _ _ _ _ _ R0 (by omega)).mono ?_; rintro e w1 ⟨rfl, h1⟩
      replace Hb := Lib.hid (thenB Hb.out h1)
      clear h1 B0 R0 hr
      go_wp2_with fail
      refine bodyPost_ret (results_tmp4 rfl _ _ _) rfl ?_
      exact retRun_no Hb.out
    · clear hok
      go_enter Try.func19, Try.ntmps19
      go_wp2_with fail
      refine (implIsRests_any _ _ _ _ _ _ R0 (by omega)).mono ?_; rintro e w1 ⟨rfl, h1⟩
      have B1 := B0.past h1
      have X1 := X0.past h1
      replace Hb := Lib.hid (thenB Hb.out h1)
      have c0 := B1.cell 0
      have c1 := B1.cell 1
      simp at c0 c1
      clear h1 B0 R0 hr
      go_wp2_with fail
      refine (allRests_any _ _ _ _ _ _ X1 (by omega)).mono ?_; rintro e w2 ⟨rfl, h2⟩
      replace Hb := Lib.hid (thenB Hb.out h2)
      clear h2 B1 c0 c1
      go_wp2_with fail
      refine bodyPost_ret (results_tmp4 rfl _ _ _) rfl ?_
      exact retRun_no Hb.out
    · clear hok
      go_enter Try.func19, Try.ntmps19
      go_wp2_with fail
      refine (implIsRests_any _ _ _ _ _ _ R0 (by omega)).mono ?_; rintro e w1 ⟨rfl, h1⟩
      have B1 := B0.past h1
      have X1 := X0.past h1
      replace Hb := Lib.hid (thenB Hb.out h1)
      have c0 := B1.cell 0
      have c1 := B1.cell 1
      simp at c0 c1
      clear h1 B0 R0 hr
      go_wp2_with fail
      refine (allRests_any _ _ _ _ _ _ X1 (by omega)).mono ?_; rintro e w2 ⟨rfl, h2⟩
      replace Hb := Lib.hid (thenB Hb.out h2)
      clear h2 B1 c0 c1
      go_wp2_with fail
      all_goals first
        | (exfalso; omega)
        | (refine bodyPost_ret (results_tmp4 rfl _ _ _) rfl ?_; exact retRun_no Hb.out)
set_option maxHeartbeats 400000 in
theorem l6Inputs_any (o m : Int) (A : Option Addr) (c : Nat) (xs : List Int) (w : World) (hr : Rd w w.heap.size A xs) (hn : xs.length ≤ 9223372036854775807) (m1 : 2 ≤ m) (m2 : m ≤ 1048576) :
    Calls Try.prog 78 #[.agg #[.int .i64 o, .int .i64 m], .slice A xs.length c] w fun e w' => e = .returned (.bool (xs.all (restB m) && decide ((xs.length : Int) ≤ 1000))) ∧ Below w.heap.size w w' := by
  have hb0 : Below w.heap.size w (w.alloc (.cells #[.int .i64 o, .int .i64 m] 24)) := (Below.refl _ _).alloc (Nat.le_refl _) _
  have hR := hr.below hb0
  have Hb := Lib.hid hb0
  clear hb0 hr
  go_enter Try.func78, Try.ntmps78
  go_wp2
  go_loop [9] (fun i => ∃ k : Nat, k ≤ xs.length ∧ i = .int .i64 k ∧ AllTo (restB m) xs k) (fun i => xs.length - (intOf i).toNat)
  case atStart => exact ⟨0, by omega, rfl, allTo_zero _ _⟩
  case round =>
    obtain ⟨k, hk, rfl, ha⟩ := hrel
    by_cases hlt : k < xs.length
    · obtain ⟨ad, rfl, hbl, hcell⟩ := hR.at_ hlt
      have hc1 := hcell k hlt
      clear hR hcell
      rcases Bool.eq_false_or_eq_true (inB xs[k] 0 (m - 1)) with hv | hv
      · go_wp2_with (go_at_call 63; refine (l1In_any _ _ _ _).mono ?_; rintro e w' ⟨rfl, rfl⟩)
        go_round
        case rel => exact ⟨k + 1, by omega, by go_num, allTo_step ha hlt (restB_in.symm.trans hv)⟩
        case measure => simp [intOf]; omega
      · have E := Lib.hid (all_no hlt (restB_in.symm.trans hv))
        go_wp2_with (go_at_call 63; refine (l1In_any _ _ _ _).mono ?_; rintro e w' ⟨rfl, rfl⟩)
        go_ret
        exact ⟨ret_bool (by rw [E.out]; rfl), Hb.out⟩
    · obtain rfl : k = xs.length := by omega
      have E := Lib.hid (allTo_end ha)
      go_wp2
      go_ret
      exact ⟨ret_bool (by rw [E.out]; simp), Hb.out⟩
set_option maxHeartbeats 4000000 in
theorem specRun_yes (A : Option Addr) (m : Int) (c : Nat) (s : List Int) (A' : Option Addr) (c' : Nat) (xs : List Int) (w : World) (hr : Rd w w.heap.size A s) (hr' : Rd w w.heap.size A' xs) (hrs : restsOk s.length m s = true) (hx : xs.all (restB m) = true) (hn : xs.length ≤ 1000) :
    Calls Try.prog 41 #[.agg #[.int .i64 s.length, .int .i64 m], .slice A s.length c, .slice A' xs.length c'] w (RetRun w (runYes m s xs)) := by
  obtain ⟨⟨⟨_, ho⟩, hm1, hm2⟩, _, hv⟩ := restsOk_parts hrs
  have hs : Hid (Rests m s) := hv
  have hX : Hid (Rests m xs) := all_rests hx
  have hl6 : s.length ≤ 6 := by omega
  have B0 := Blk.new w 24 #[.int .i64 s.length, .int .i64 m]
  have hb0 : Below w.heap.size w (w.alloc (.cells #[.int .i64 s.length, .int .i64 m] 24)) := (Below.refl _ _).alloc (Nat.le_refl _) _
  have R0 := hr.past hb0
  have X0 := hr'.past hb0
  have hg : w.heap.size < (w.alloc (.cells #[.int .i64 s.length, .int .i64 m] 24)).heap.size := by simp
  have Hb := Lib.hid hb0
  have hmk := make_rows s.length (by omega)
  clear hb0 hv ho
  go_enter Try.func41, Try.ntmps41
  go_wp2_with fail
  refine (specIsRests_any _ _ _ _ _ _ R0 (by omega)).mono ?_; rintro e w1 ⟨rfl, h1⟩
  have B1 := B0.past h1
  have X1 := X0.past h1
  replace Hb := Lib.hid (thenB Hb.out h1)
  have c0 := B1.cell 0
  have c1 := B1.cell 1
  simp at c0 c1
  have hg1 : w.heap.size < w1.heap.size := by have := h1.size; omega
  clear h1 B0 R0 X0 hg
  go_wp2_with fail
  refine (l6Inputs_any _ _ _ _ _ _ X1 (by omega) hm1 hm2).mono ?_; rintro e w2 ⟨rfl, h2⟩
  have B2 := B1.past h2
  replace Hb := Lib.hid (thenB Hb.out h2)
  have hg2 : w.heap.size < w2.heap.size := by have := h2.size; omega
  clear h2 B1 c0 c1 X1 hg1
  have R3 := hr.past Hb.out
  have hdx : decide ((xs.length : Int) ≤ 1000) = true := by simp; omega
  go_wp2_with fail
  refine (l1Copy_any _ _ _ _ R3 (by omega)).mono ?_; rintro e w4 ⟨A4, c4, rfl, O4, h4⟩
  have B3 := B2.past h4
  have c0 := B3.cell 0
  simp at c0
  replace Hb := Lib.hid (thenB Hb.out h4)
  have hg4 : w.heap.size < w4.heap.size := by have := h4.size; omega
  have hbm : Below w4.heap.size w4 (w4.alloc (.cells (madeCells #[.slice none 0 0] s.length) 26)) := (Below.refl _ _).alloc (Nat.le_refl _) _
  have OM := Lib.hid (ownM_made w4 s.length (w.heap.size + 1) (by omega) (by simp only [maxLen]; omega))
  replace Hb := Lib.hid (thenB Hb.out hbm)
  have B4 := Lib.hid (B3.past hbm)
  have OO4 := Lib.hid (own_mono (own_past O4 hbm) (show w.heap.size + 1 ≤ _ by omega))
  have U4 : Hid (Hi A4 w4.heap.size) := own_hi O4
  clear B2 B3 R3 h4 hbm O4
  go_wp2_with fail
  go_loopw [10, 35] (fun q i wr => ∃ (k : Nat) (A1 : Option Addr) (c1 : Nat) (rs : List Rw), k ≤ xs.length ∧ i = .int .i64 k ∧ q = .slice A1 s.length c1 ∧ Hid (lists rs = cRows m s xs s.length k) ∧ Hid (OwnM wr (w.heap.size + 1) (some ⟨w4.heap.size, 0, none⟩) s.length rs) ∧ Hid (Own wr (w.heap.size + 1) A1 c1 (stX m s xs k)) ∧ Hid ((∀ r ∈ rs, Apart r.A A1) ∧ Apart (some ⟨w4.heap.size, 0, none⟩) A1) ∧ Hid (Blk wr w.heap.size 24 #[.int .i64 s.length, .int .i64 m]) ∧ Hid (Below w.heap.size w wr)) (fun _ i _ => xs.length - (intOf i).toNat)
  case atStart => exact ⟨0, A4, c4, List.replicate s.length nilRw, by omega, rfl, rfl, by simp [Hid, lists, cRows, crow, nilRw, List.map_const'], OM.out, OO4.out, ⟨fun r hr' => (by obtain rfl := List.eq_of_mem_replicate hr'; intro a a' e; cases e), apart_gt (m := w4.heap.size) (fun a e => by injection e with e; subst e; exact Nat.le_refl _) U4.out (Nat.le_refl _)⟩, B4.out, Hb.out⟩
  case round =>
    clear OM B4 Hb OO4 U4 c0
    obtain ⟨k, A1, c1, rs, hk, rfl, rfl, hL, hO, hN, hA, BB, hB⟩ := hrel
    by_cases hlt : k < xs.length
    · obtain ⟨ad, rfl, hbl, hcell⟩ := hr'.at_ hlt
      have hc1 : wr.cell? (ad.add k) = some (.int .i64 (xs.getD k 0)) := (hB.out.cell (by rw [block_add]; exact hbl)).trans (hcell k hlt)
      have e0 := BB.out.cell 0
      have e1 := BB.out.cell 1
      simp at e0 e1
      have hxk := hX.out _ (List.getElem_mem hlt)
      have hlen := stX_length m s xs k
      have hst := stX_rests hm1 hs.out hX.out k
      have hcall := l6Step_any A1 c1 s.length m (stX m s xs k) xs[k] wr (own_rd hN.out) (by omega) hm1 hm2 hst hxk.1 hxk.2
      have hgx := getD_at hlt
      have eN : stepN m (stX m s xs k) xs[k] = stX m s xs (k + 1) := by rw [stX, hgx]
      have hlN := stX_length m s xs (k + 1)
      have hlC := stepC_length m (stX m s xs k) xs[k]
      rw [hlen] at hcall hlC
      rw [eN] at hcall
      have hcj : ∀ j, j < s.length → (stepC m (stX m s xs k) xs[k]).getD j 0 = carr m s xs j k := fun j _ => by unfold carr; rw [hgx]
      obtain ⟨C, hCe⟩ : ∃ C, C = stepC m (stX m s xs k) xs[k] := ⟨_, rfl⟩
      obtain ⟨N, hNe⟩ : ∃ N, N = stX m s xs (k + 1) := ⟨_, rfl⟩
      rw [← hCe] at hcall hlC hcj
      rw [← hNe] at hcall hlN
      have HNe := Lib.hid hNe
      have HlC := Lib.hid hlC
      have HlN := Lib.hid hlN
      have Hcj := Lib.hid hcj
      have hsC : s.length ≤ C.length := by omega
      have Hc : Hid (Calls Try.prog 70 #[.agg #[.int .i64 s.length, .int .i64 m], .slice A1 s.length c1, .int .i64 xs[k]] wr (RetLL wr C N)) := hcall
      have hgw : w4.heap.size < wr.heap.size := hO.out.his.1 _ rfl
      clear hcall hst hlen hgx eN hlN hlC hcj hCe hNe hcell hxk
      obtain ⟨wo, hwo⟩ : ∃ wo : World, wo = wr := ⟨_, rfl⟩
      subst hwo
      go_wp2_with fail
      refine (show Calls Try.prog 70 #[.agg #[.int .i64 s.length, .int .i64 m], .slice A1 s.length c1, .int .i64 xs[k]] wo (RetLL wo C N) from Hc).mono ?_
      rintro e w3 ⟨A2, c2, A3, c3, rfl, O2, O3, ap, h3⟩
      have hO3 := Lib.hid (hO.out.past h3)
      have OO2 := Lib.hid O2
      have OO3 := Lib.hid O3
      have B3 := Lib.hid (BB.out.past h3)
      have hB3 := Lib.hid (hB.out.trans (h3.mono hB.out.size))
      have L2 : Hid (Lo A2 wo.heap.size) := own_lo O2
      have L3 : Hid (Lo A3 wo.heap.size) := own_lo O3
      have r2 : Hid (∀ r ∈ rs, Apart r.A A2) := fun r hr => apart_lt (hO.out.his.2 r hr) L2.out (Nat.le_refl _)
      have r3 : Hid (∀ r ∈ rs, Apart r.A A3) := fun r hr => apart_lt (hO.out.his.2 r hr) L3.out (Nat.le_refl _)
      have AP := Lib.hid ap
      have hL0 : Hid (lists rs = cPart m s xs s.length k 0) := by show _ = _; rw [cPart_start]; exact hL.out
      rw [HlN.out]
      clear O2 O3 ap h3 e0 e1 hc1 hL hO hN hA BB hB
      go_wp2_with fail
      go_loopw [48] (fun i wq => ∃ (j : Nat) (qs : List Rw), j ≤ C.length ∧ i = .int .i64 j ∧ Hid (lists qs = cPart m s xs s.length k j) ∧ Hid (OwnM wq (w.heap.size + 1) (some ⟨w4.heap.size, 0, none⟩) s.length qs) ∧ Hid (Own wq wo.heap.size A2 c2 C) ∧ Hid (Own wq wo.heap.size A3 c3 N) ∧ Hid (∀ r ∈ qs, Apart r.A A2) ∧ Hid (∀ r ∈ qs, Apart r.A A3) ∧ Hid (Blk wq w.heap.size 24 #[.int .i64 s.length, .int .i64 m]) ∧ Hid (Below w.heap.size w wq)) (fun i _ => C.length - (intOf i).toNat)
      case atStart => exact ⟨0, rs, by omega, rfl, hL0.out, hO3.out, OO2.out, OO3.out, r2.out, r3.out, B3.out, hB3.out⟩
      case round =>
        clear hL0 hO3 OO2 OO3 r2 r3 B3 hB3
        obtain ⟨j, qs, hj, rfl, hL, hO, hC2, hN3, a2, a3, BB, hB⟩ := hrel
        by_cases hltC : j < C.length
        · have hlt2 : j < s.length := by have := HlC.out; omega
          have hql : qs.length = s.length := by rw [← lists_length qs, hL.out, cPart_length]
          have hjq : j < qs.length := by omega
          have hjC : j < C.length := by omega
          obtain ⟨gc, rfl, hgl, hgc⟩ := own_head hC2.out hjC
          have e1 := own_cell hC2.out hjC
          have d1 : wr.cell? ⟨w4.heap.size, j, none⟩ = some (.slice qs[j].A qs[j].xs.length qs[j].c) := hO.out.cell hjq
          have f1 := hO.out.frozen j
          have hrow := at_row hL.out (cPart_at m s xs hlt2) hjq
          rw [if_neg (by omega)] at hrow
          have hrl : qs[j].xs.length = k := by rw [hrow, crow_length]
          rw [hrl] at d1
          have oj := hO.out.row _ (List.getElem_mem hjq)
          rw [hrow] at oj
          have hcv := Hcj.out j hlt2
          rw [getD_at hjC] at hcv
          have Hcv := Lib.hid hcv
          have Oj := Lib.hid oj
          have Hrow := Lib.hid hrow
          have HL := Lib.hid hql
          have hgq : w4.heap.size < wr.heap.size := hO.out.his.1 _ rfl
          have e1' : wr.cell? ⟨gc, j, none⟩ = some (.int .i64 C[j]) := by rw [e1, getD_at hjC]
          have n1 : Hid (some w4.heap.size ≠ row qs[j].A) := by
            have := hO.out.off _ (List.getElem_mem hjq)
            cases hA : qs[j].A with
            | none => simp [Hid, row]
            | some a => have := this _ a rfl hA; simpa [Hid, row] using this
          have n2 : Hid (some gc ≠ row qs[j].A) := by
            have := a2.out _ (List.getElem_mem hjq)
            cases hA : qs[j].A with
            | none => simp [Hid, row]
            | some a => have := this a _ hA rfl; simp [Hid, row]; exact fun e => this e.symm
          clear hrow hrl oj hcv hql
          have hbX : Below wr.heap.size wr (wr.alloc (.cells #[.int .i64 C[j]] 3)) := (Below.refl _ _).alloc (Nat.le_refl _) _
          go_wp2_with (at_builtin; refine app_new rfl (.tmp 58) (.tmp 60) rfl (w.heap.size + 1) qs[j].A qs[j].c k (crow m s xs j k) C[j] (crow_length _ _ _ _ _) rfl Oj.out rfl (by omega) (by have := hB.out.size; omega) ?_)
          intro A5 c5 w5 O5 hw5 mv5
          have hst := Lib.hid (hO.out.reset hjq hw5 O5 mv5)
          have hlen5 : Hid ((crow m s xs j k ++ [C[j]]).length = k + 1) := by simp [Hid, crow_length]
          have hst2 : Hid (OwnM (w5.setCell ⟨w4.heap.size, j, none⟩ (.slice A5 (k + 1) c5)) (w.heap.size + 1) (some ⟨w4.heap.size, 0, none⟩) s.length (qs.set j ⟨A5, c5, crow m s xs j k ++ [C[j]]⟩)) := by
            have := hst.out
            rw [hlen5.out] at this
            exact this
          have hL2 : Hid (lists (qs.set j ⟨A5, c5, crow m s xs j k ++ [C[j]]⟩) = cPart m s xs s.length k (j + 1)) := by
            show _ = _
            rw [lists_set, hL.out, Hcv.out, cPart_step m s xs hlt2]
          have hqm := List.getElem_mem hjq
          have p1 := Lib.hid (own_wrote hC2.out hw5 (apart_symm (a2.out _ hqm)))
          have p2 := Lib.hid (own_wrote hN3.out hw5 (apart_symm (a3.out _ hqm)))
          have p3 := Lib.hid (blk_wrote BB.out hw5 (hO.out.los.2 _ hqm) (by omega))
          have p4 := Lib.hid (below_app hB.out hw5 (own_mono (hO.out.row _ hqm) (by omega)) hB.out.size)
          have q2 := Lib.hid (reset_apart (c' := c5) (ys := crow m s xs j k ++ [C[j]]) hjq mv5 (own_hi hC2.out) a2.out)
          have q3 := Lib.hid (reset_apart (c' := c5) (ys := crow m s xs j k ++ [C[j]]) hjq mv5 (own_hi hN3.out) a3.out)
          have d5 := (World.grownBy.cell_far hw5 ⟨w4.heap.size, j, none⟩ hgq n1.out).trans d1
          have f5 := (World.grownBy.frozen_far hw5 ⟨w4.heap.size, j, none⟩ hgq n1.out).trans f1
          have hw2 : w.heap.size < w4.heap.size := hg4
          clear hst O5 hw5 mv5 d1 e1 e1' f1 hbX hqm
          go_wp2
          go_roundw
          case rel => exact ⟨j + 1, _, by omega, by go_num, hL2.out, hst2.out, ownsRow_setCell_below p1.out hgw _, ownsRow_setCell_below p2.out hgw _, q2.out, q3.out, p3.out.far (by simp; omega) _, p4.out.setCell (by simp; omega) _⟩
          case measure => simp [intOf]; omega
        · obtain rfl : j = C.length := by omega
          have hL2 : Hid (lists qs = cRows m s xs s.length (k + 1)) := by show _ = _; rw [hL.out, cPart_end m s xs _ _ _ (by omega)]
          have hN4 : Hid (Own wr (w.heap.size + 1) A3 c3 (stX m s xs (k + 1))) := by rw [← HNe.out]; exact own_mono hN3.out (by omega)
          have hap := Lib.hid (apart_lt (A := some ⟨w4.heap.size, 0, none⟩) (n := w4.heap.size + 1) (fun a e => by injection e with e; subst e; simp) L3.out (by omega))
          clear hL hC2 hN3 a2
          go_wp2
          go_roundw
          case rel => exact ⟨k + 1, A3, c3, qs, by omega, by go_num, rfl, hL2.out, hO.out, hN4.out, ⟨a3.out, hap.out⟩, BB.out, hB.out⟩
          case measure => simp [intOf]; omega
    · obtain rfl : k = xs.length := by omega
      have hcr := Lib.hid (combine_rows hm1 hs.out hX.out (by have := (restsOk_parts hrs).1.1; omega) hl6 hn)
      have hrl : Hid (∀ r ∈ rs, r.xs.length ≤ 1048576) := fun r hr => by
        have : r.xs ∈ lists rs := by simp only [lists, List.mem_map]; exact ⟨r, hr, rfl⟩
        rw [hL.out] at this
        have := cRows_mem this
        omega
      have hrsl : rs.length = s.length := by rw [← lists_length rs, hL.out, cRows_length]
      have hcall := l6Combine_any (some ⟨w4.heap.size, 0, none⟩) s.length rs wr hO.out.rdm (by have := (restsOk_parts hrs).1.1; omega) (by omega) xs.length (by rw [hL.out, hrsl]; exact run_rows_ok hm1 hs.out hX.out hn)
      rw [hL.out, hrsl] at hcall
      have Hc := Lib.hid hcall
      have Hl := Lib.hid hrsl
      have hlN := Lib.hid (stX_length m s xs xs.length)
      have hlY : Hid ((combTo xs.length (cRows m s xs s.length xs.length) s.length).length = xs.length) := by rw [run_y]; exact lst_length _ _
      clear hcall hrsl
      go_wp2_with fail
      refine Hc.out.mono ?_
      rintro e w5 ⟨A5, c5, rfl, O5, h5⟩
      have hO5 := hO.out.past h5
      have hN5 := own_past hN.out h5
      have hB5 := hB.out.trans (h5.mono hB.out.size)
      have ap1 := apart_gt (own_lo O5) (own_hi hN.out) (Nat.le_refl _)
      have ap2 : ∀ r ∈ rs, Apart r.A A5 := fun r hr => apart_lt (hO.out.his.2 r hr) (own_lo O5) (Nat.le_refl _)
      have ap3 := apart_lt hO.out.his.1 (own_lo O5) (Nat.le_refl _)
      have hO6 := own_mono O5 hB.out.size
      go_wp2_with fail
      refine bodyPost_ret (results_tmp4 rfl _ _ _) rfl ?_
      refine ⟨some ⟨w4.heap.size, 0, none⟩, s.length, rs, A5, c5, A1, c1, ?_, hL.out, hO5.more (by omega), hO6, own_mono hN5 (by omega), ap1, ap2, hA.out.1, ap3, hA.out.2, hB5⟩
      rw [Hl.out, show (runYes m s xs).s.length = s.length from hlN.out]
      rfl
end Go.Proofs.Yteabibkbmigpaaa
