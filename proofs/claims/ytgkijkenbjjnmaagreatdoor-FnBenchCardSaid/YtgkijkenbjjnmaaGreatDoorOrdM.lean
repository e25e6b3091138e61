/- Contracts of the program's OrderModulator and BitsOf where they give a modulator and bits. -/
import Derived.Test.YtgkijkenbjjnmaaGreatDoorRunM
import Derived.Test.YtgkijkenbjjnmaaGreatDoorMat
import Derived.Test.YtgkijkenbjjnmaaGreatDoorCopy
import Derived.Deep.RegionLaw
namespace Go.Proofs.YtgkijkenbjjnmaaGreatDoor
open Go.RowKit
set_option linter.unusedVariables false
set_option linter.unusedSimpArgs false
theorem step_app_list {w : World} {ops : Array Oper} {o : Oper} {a : Act} {K : Act → World → Prop} {Q : Exit → Act → World → Prop} {E : Prop} (hgd : o.guard = none) (s x : Operand)
    (ho : o.op = .call { callee := .builtin .append, args := #[s, x], argTypes := #[25, 25] })
    (B : Nat) (A : Option Addr) (c n : Nat) (xs : List Int) (hl : xs.length = n) (hs : a.eval s = .slice A n c) (hown : Own w B A c xs) (B2 : Nat) (A2 : Option Addr) (c2 : Nat) (ys : List Int) (hx : a.eval x = .slice A2 ys.length c2) (hr : Rd w B2 A2 ys)
    (hn : n + ys.length ≤ 1048576) (hB : B ≤ w.heap.size)
    (h : ∀ A' c' w', Own w' B A' c' (xs ++ ys) → Wrote w w' A → Moved A A' w.heap.size → K (a.put o.dst (.slice A' (n + ys.length) c')) w') :
    if Region.wanted o (yielded ops a.tmps) = true then Oper.wp Tryz.prog o a w K Q else E := by
  subst hl
  have hw : Region.wanted o (yielded ops a.tmps) = true := by simp [Region.wanted, hgd]
  rw [if_pos hw]
  obtain ⟨A', c', w', hrun, h2, h3, h5⟩ := run_app_list w o.type B A c xs hown B2 A2 c2 ys hr (by omega) hB
  unfold Oper.wp execOp
  simp only [ho, resolve, invoke, builtin, Sem.run_bind, Sem.run_pure, Result.andThen_ok, List.map_toArray, List.map_cons, List.map_nil, hs, hx, hrun]
  exact h A' c' w' h2 h3 h5
def RetMod (w : World) (l s : Int) (cs : List Int) (b : Bool) (e : Ending) (w' : World) : Prop :=
  ∃ A c, e = .returned (.tuple #[.agg #[.int .i64 l, .int .i64 s, .slice A cs.length c], .bool b]) ∧ Own w' w.heap.size A c cs ∧ Below w.heap.size w w'
theorem rd_drop {w : World} {B g o : Nat} {xs : List Int} (h : Rd w B (some ⟨g, o, none⟩) xs) (i : Nat) : Rd w B (some ⟨g, o + i, none⟩) (xs.drop i) := fun h0 => by
  have hl : (xs.drop i).length = xs.length - i := List.length_drop
  obtain ⟨ad, e, hb, hc⟩ := h (by omega)
  obtain rfl := Option.some.inj e
  refine ⟨_, rfl, hb, fun j hj => ?_⟩
  have := hc (i + j) (by omega)
  rw [Addr.add_lit] at this ⊢
  rw [Nat.add_assoc, this]
  simp [List.getD, List.getElem?_drop]
theorem implOrder_res {tmps : Array Value} {g : Nat} {w : World} {v0 v1 v2 b : Value} (hp : tmps.getD 4 undef = .pointer (some ⟨g, 0, none⟩)) (hb : tmps.getD 5 undef = b) (c0 : w.cell? ⟨g, 0, none⟩ = some v0) (c1 : w.cell? ⟨g, 1, none⟩ = some v1) (c2 : w.cell? ⟨g, 2, none⟩ = some v2) :
    (results Tryz.f53 tmps).run Tryz.prog w = .ok (.tuple #[.agg #[v0, v1, v2], b]) w := by
  have hp' := hp
  have hb' := hb
  simp at hp' hb'
  simp only [results, Tryz.results53]
  simp [go_sem, hp', hb', c0, c1, c2]
set_option maxRecDepth 100000 in
set_option maxHeartbeats 1000000 in
theorem implOrder_yes (l s : Int) (k : Nat) (w : World) (hq : quantOk l s = true) (k1 : 1 ≤ k) (k2 : k ≤ 6) (hm : modOk l s ((coefs k).drop 1) = true) :
    Calls Tryz.prog 53 #[.agg #[.int .i64 l, .int .i64 s], .int .i64 k] w (fun e w' => ∃ A c, e = .returned (.tuple #[.agg #[.int .i64 l, .int .i64 s, .slice A k c], .bool true]) ∧ Own w' w.heap.size A c ((coefs k).drop 1) ∧ Below w.heap.size w w') := by
  have hce : coefsI (k : Int) = coefs k := coefsI_yes k k2
  have hcall := fun W => implDifferenceCoefs_any (k : Int) W
  rw [hce] at hcall
  have Hc := Lib.hid hcall
  have HDl : Hid ((coefs k).length = k + 1) := coefs_length k
  have HXl : Hid (((coefs k).drop 1).length = k) := by show _ = _; rw [List.length_drop, coefs_length]; rfl
  have HM := Lib.hid hm
  obtain ⟨D, hD⟩ : ∃ D, D = coefs k := ⟨_, rfl⟩
  rw [← hD] at Hc HDl HXl HM ⊢
  clear hce hcall hD hm
  obtain ⟨W, hW⟩ : ∃ W, W = ((w.alloc (.cells #[.int .i64 l, .int .i64 s] 24)).alloc (.cells #[.int .i64 0, .int .i64 0, .slice none 0 0] 27)).alloc (.cells #[.int .i64 l, .int .i64 s, .slice none 0 0] 27) := ⟨_, rfl⟩
  have Hb : Hid (Below w.heap.size w W) := by rw [hW]; exact (((Below.refl _ _).alloc (Nat.le_refl _) _).alloc (by simp) _).alloc (by simp; omega) _
  have BM : Hid (Blk W (w.heap.size + 1 + 1) 27 #[.int .i64 l, .int .i64 s, .slice none 0 0]) := by
    rw [hW]; have := Blk.new ((w.alloc (.cells #[.int .i64 l, .int .i64 s] 24)).alloc (.cells #[.int .i64 0, .int .i64 0, .slice none 0 0] 27)) 27 #[.int .i64 l, .int .i64 s, .slice none 0 0]
    exact (by simpa using this : Blk _ _ _ _)
  have BR : Hid (Blk W (w.heap.size + 1) 27 #[.int .i64 0, .int .i64 0, .slice none 0 0]) := by
    rw [hW]; have := (Blk.new (w.alloc (.cells #[.int .i64 l, .int .i64 s] 24)) 27 #[.int .i64 0, .int .i64 0, .slice none 0 0]).alloc (.cells #[.int .i64 l, .int .i64 s, .slice none 0 0] 27)
    exact (by simpa using this : Blk _ _ _ _)
  have HW := Lib.hid hW
  clear hW
  go_enter Tryz.func53, Tryz.ntmps53
  go_wp2_with fail
  rw [← HW.out]
  have q2 := BM.out.cell 2
  have f2 := BM.out.frozen 2
  simp at q2
  go_region_law
    (first
      | (refine step_app_list (by rfl) (.tmp 12) (.tmp 14) (by rfl) W.heap.size none 0 0 [] rfl (by rfl) (own_nil _ _) wd.heap.size Ad cd D (by rfl) RD.out (by rw [HDl.out]; omega) zd ?_; intro A5 c5 w5 O5 hw5 mv5; have BM5 := Lib.hid (blk_wrote BM2.out hw5 (own_lo (own_nil wd W.heap.size)) BM.out.lt); have BR5 := Lib.hid (blk_wrote BR2.out hw5 (own_lo (own_nil wd W.heap.size)) BR.out.lt); have Hb5 := Lib.hid (below_app Hb2.out hw5 (own_nil wd w.heap.size) Hb2.out.size); have i2 := BM5.out.cell 2; have if2 := BM5.out.frozen 2; simp at i2)
      | (go_simp; go_at_call 101; refine (Hc.out _).mono ?_; rintro e wd ⟨Ad, cd, rfl, Od, hd⟩; have bx := (Below.refl W.heap.size W).drew; have BM2 := Lib.hid ((BM.out.past bx).past hd); have BR2 := Lib.hid ((BR.out.past bx).past hd); have Hb2 := Lib.hid (thenB (thenB Hb.out bx) hd); have RD := Lib.hid (own_rd Od); have zd : W.heap.size ≤ wd.heap.size := hd.size; have j2 := BM2.out.cell 2; have jf := BM2.out.frozen 2; simp at j2; clear bx hd Od))
  all_goals
    clear q2 f2 j2 jf i2 if2 BM2 BR2 Hb2 RD zd mv5 Hc
    have O5' : Own w5 W.heap.size A5 c5 D := by simpa using O5
    have hj : 0 < D.length := by rw [HDl.out]; omega
    obtain ⟨g, rfl, hg, hgl⟩ := own_head O5' hj
    have hcap := (own_cap O5').1
    rw [HDl.out] at hcap
    have hg1 : g ≠ w.heap.size + 1 + 1 := by have := BM.out.lt; omega
    have hg2 : g ≠ w.heap.size + 1 := by have := BM.out.lt; omega
    have BM6 := Lib.hid (BM5.out.set_ 2 (.slice (some ⟨g, 0, none⟩) (k + 1) c5))
    have BR6 := Lib.hid (BR5.out.far (p := ⟨w.heap.size + 1 + 1, 2, none⟩) (by simp) (.slice (some ⟨g, 0, none⟩) (k + 1) c5))
    have RD6' : (Rd (w5.setCell ⟨w.heap.size + 1 + 1, 2, none⟩ (.slice (some ⟨g, 0, none⟩) (k + 1) c5)) (w5.setCell ⟨w.heap.size + 1 + 1, 2, none⟩ (.slice (some ⟨g, 0, none⟩) (k + 1) c5)).heap.size (some ⟨g, 1, none⟩) (D.drop 1)) := by
      have := rd_drop (own_rd (own_grown O5' (w' := w5.setCell ⟨w.heap.size + 1 + 1, 2, none⟩ (.slice (some ⟨g, 0, none⟩) (k + 1) c5)) (row := some (w.heap.size + 1 + 1)) (turn_set (turn_refl w5 _) rfl _) (fun a e => by injection e with e; subst e; intro e'; injection e' with e'; exact hg1 e'))) 1
      simpa using this
    have RD6 := Lib.hid RD6'
    clear RD6'
    have Hb6 := Lib.hid (Hb5.out.setCell (p := ⟨w.heap.size + 1 + 1, 2, none⟩) (show w.heap.size ≤ w.heap.size + 1 + 1 by omega) (.slice (some ⟨g, 0, none⟩) (k + 1) c5))
    have HDl' : D.length = k + 1 := HDl.out
    rw [HDl']
    have zz : Hid (w.heap.size + 1 + 1 < (w5.setCell ⟨w.heap.size + 1 + 1, 2, none⟩ (.slice (some ⟨g, 0, none⟩) (k + 1) c5)).heap.size) := BM6.out.lt
    obtain ⟨w6, hw6⟩ : ∃ w6, w6 = w5.setCell ⟨w.heap.size + 1 + 1, 2, none⟩ (.slice (some ⟨g, 0, none⟩) (k + 1) c5) := ⟨_, rfl⟩
    rw [← hw6] at BM6 BR6 RD6 Hb6 zz ⊢
    clear hw6 O5 O5' hw5 BM5 BR5 Hb5 HDl' hj
    have q0 := BM6.out.cell 0
    have q1 := BM6.out.cell 1
    have q2 := BM6.out.cell 2
    have f2 := BM6.out.frozen 2
    simp at q0 q1 q2
    have hcl := fun W h => clone_any (some ⟨g, 1, none⟩) (c5 - 1) (D.drop 1) W h (by rw [HXl.out]; omega)
    rw [HXl.out] at hcl
    have Hcl := Lib.hid hcl
    clear hcl
    go_wp2_with fail
    refine (Hcl.out w6 RD6.out).mono ?_
    rintro e w7 ⟨A7, c7, rfl, O7, h7⟩
    have HXl' := HXl.out
    rw [HXl']
    have BM7 := BM6.out.past h7
    have BR7 := BR6.out.past h7
    have Hb7 := Lib.hid (thenB Hb6.out h7)
    have r0 := BM7.cell 0
    have r1 := BM7.cell 1
    have r2 := BM7.cell 2
    have rf := BM7.frozen 2
    simp at r0 r1 r2
    have z6 : w.heap.size ≤ w6.heap.size := Hb6.out.size
    have hne : ∀ a, A7 = some a → a.block ≠ w.heap.size + 1 + 1 := fun a e => by have := own_lo O7 a e; have := zz.out; omega
    have hlo : ∀ a, A7 = some a → w.heap.size + 1 + 1 < a.block := fun a e => by have := own_lo O7 a e; have := zz.out; omega
    have O8 := own_grown O7 (w' := w7.setCell ⟨w.heap.size + 1 + 1, 2, none⟩ (.slice A7 k c7)) (row := some (w.heap.size + 1 + 1)) (turn_set (turn_refl w7 _) rfl _) (fun a e => by intro e'; injection e' with e'; exact hne a e e')
    have BM8 := Lib.hid (BM7.set_ 2 (.slice A7 k c7))
    have BR8 := Lib.hid (BR7.far (p := ⟨w.heap.size + 1 + 1, 2, none⟩) (by simp) (.slice A7 k c7))
    have Hb8 := Lib.hid (Hb7.out.setCell (p := ⟨w.heap.size + 1 + 1, 2, none⟩) (show w.heap.size ≤ w.heap.size + 1 + 1 by omega) (.slice A7 k c7))
    have HO8 := Lib.hid O8
    have Hlo := Lib.hid hlo
    obtain ⟨w8, hw8⟩ : ∃ w8, w8 = w7.setCell ⟨w.heap.size + 1 + 1, 2, none⟩ (.slice A7 k c7) := ⟨_, rfl⟩
    rw [← hw8] at BM8 BR8 Hb8 HO8
    have Hw8 := Lib.hid hw8
    clear q0 q1 q2 f2 BM6 BR6 RD6 Hb6 zz Hcl h7 BM7 BR7 Hb7 hne hlo O7 O8 HXl' hw8
    have hmod := fun W h => implIsModulator_any l s A7 c7 (D.drop 1) W h (by rw [HXl.out]; omega)
    rw [HXl.out, HM.out] at hmod
    have Hmod := Lib.hid hmod
    clear hmod
    go_wp2_with fail
    rw [← Hw8.out]
    clear r0 r1 r2 rf
    refine (Hmod.out w8 (own_rd HO8.out)).mono ?_
    rintro e w9 ⟨rfl, h9⟩
    have BM9 := BM8.out.past h9
    have BR9 := BR8.out.past h9
    have Hb9 := Lib.hid (thenB Hb8.out h9)
    have O9 := Lib.hid (own_past HO8.out h9)
    have s0 := BM9.cell 0
    have s1 := BM9.cell 1
    have s2 := BM9.cell 2
    have t0 := BR9.cell 0
    have t1 := BR9.cell 1
    have t2 := BR9.cell 2
    have tf0 := BR9.frozen 0
    have tf1 := BR9.frozen 1
    have tf2 := BR9.frozen 2
    simp at s0 s1 s2 t0 t1 t2
    have HBR := Lib.hid BR9
    clear BM9 BR9 h9 BM8 BR8 Hb8 HO8 Hmod Hw8
    go_wp2_with fail
    have RF : Blk (((w9.setCell ⟨w.heap.size + 1, 0, none⟩ (.int .i64 l)).setCell ⟨w.heap.size + 1, 1, none⟩ (.int .i64 s)).setCell ⟨w.heap.size + 1, 2, none⟩ (.slice A7 k c7)) (w.heap.size + 1) 27 #[.int .i64 l, .int .i64 s, .slice A7 k c7] := ((HBR.out.set_ 0 (.int .i64 l)).set_ 1 (.int .i64 s)).set_ 2 (.slice A7 k c7)
    have T1 := turn_set (turn_refl w9 (w.heap.size + 1)) (p := ⟨w.heap.size + 1, 0, none⟩) rfl (.int .i64 l)
    have T2 := turn_set T1 (p := ⟨w.heap.size + 1, 1, none⟩) rfl (.int .i64 s)
    have T3 := turn_set T2 (p := ⟨w.heap.size + 1, 2, none⟩) rfl (.slice A7 k c7)
    have hn7 : ∀ a, A7 = some a → some a.block ≠ some (w.heap.size + 1) := fun a e e' => by
      have h1 := Hlo.out a e
      have h2 := Option.some.inj e'
      rw [h2] at h1
      exact absurd h1 (by simp)
    have OF := own_grown O9.out T3 hn7
    refine bodyPost_ret (implOrder_res (b := .bool true) rfl rfl (RF.cell 0) (RF.cell 1) (RF.cell 2)) rfl ?_
    exact ⟨A7, c7, rfl, own_mono OF z6, ((Hb9.out.setCell (by simp) _).setCell (by simp) _).setCell (by simp) _⟩
set_option maxRecDepth 100000 in
set_option maxHeartbeats 1000000 in
theorem bitsOf_yes (l s : Int) (A : Option Addr) (c n : Nat) (ys : List Int) (bs : List Int) (w : World) (hr : Rd w w.heap.size A ys) (hq : quantOk l s = true) (hn : ys.length = n) (hb : bs.length = n) (h1 : n ≤ 1000) (hy : ∀ k (h : k < ys.length), ys[k] = levW l s (bs.getD k 0)) (hbb : ∀ b ∈ bs, 0 ≤ b ∧ b < l) :
    Calls Tryz.prog 100 #[.agg #[.int .i64 l, .int .i64 s], .slice A n c] w (fun e w' => ∃ A1 c1, e = .returned (.tuple #[.slice A1 n c1, .bool true]) ∧ Own w' w.heap.size A1 c1 bs ∧ Below w.heap.size w w') := by
  subst hn
  obtain ⟨l1, l2, s1, s2⟩ := quant_parts hq
  have hb0 : Below w.heap.size w (w.alloc (.cells #[.int .i64 l, .int .i64 s] 24)) := (Below.refl _ _).alloc (Nat.le_refl _) _
  have HB0 := Lib.hid (Blk.new w 24 #[.int .i64 l, .int .i64 s])
  have Hb0 := Lib.hid hb0
  have RW := Lib.hid hr
  have HY := Lib.hid hy
  have HBB := Lib.hid hbb
  have HBl := Lib.hid hb
  have q0 := HB0.out.cell 0
  have q1 := HB0.out.cell 1
  simp at q0 q1
  have Hq := Lib.hid hq
  clear hb0 hr hy hbb hb hq
  go_enter Tryz.func100, Tryz.ntmps100
  go_wp2_with fail
  refine (implIsQuantiser_any _ _ _).mono ?_; rintro e w1 ⟨rfl, h3⟩
  rw [Hq.out]
  have HB1 := Lib.hid (HB0.out.past h3)
  have Hb1 := Lib.hid (thenB Hb0.out h3)
  clear q0 q1 h3 HB0 Hb0
  have q0 := HB1.out.cell 0
  have q1 := HB1.out.cell 1
  simp at q0 q1
  have O1 := Lib.hid (own_empty w1 w1.heap.size (Nat.le_refl _))
  have bx : Below w1.heap.size w1 (w1.alloc (.cells #[] 3)) := (Below.refl _ _).alloc (Nat.le_refl _) _
  have HB2 := Lib.hid (HB1.out.past bx)
  have Hb2 := Lib.hid (thenB Hb1.out bx)
  have z1 : w.heap.size < w1.heap.size := HB1.out.lt
  have z2 : w1.heap.size ≤ (w1.alloc (.cells #[] 3)).heap.size := bx.size
  clear bx HB1 Hb1
  go_wp2_with fail
  clear q0 q1
  go_loopw [6, 23] (fun q i wr => ∃ (k : Nat) (Aq : Option Addr) (cq : Nat), k ≤ ys.length ∧ w1.heap.size ≤ wr.heap.size ∧ i = .int .i64 k ∧ q = .slice Aq k cq ∧ Hid (Own wr w1.heap.size Aq cq (bs.take k)) ∧ Hid (Blk wr w.heap.size 24 #[.int .i64 l, .int .i64 s]) ∧ Hid (Below w.heap.size w wr)) (fun _ i _ => ys.length - (intOf i).toNat)
  case atStart => exact ⟨0, _, 0, by omega, z2, rfl, rfl, O1.out, HB2.out, Hb2.out⟩
  case round =>
    clear O1 HB2 Hb2 z2
    obtain ⟨k, Aq, cq, hk, zr, rfl, rfl, hO, HB, Hb⟩ := hrel
    have q0 := HB.out.cell 0
    have q1 := HB.out.cell 1
    simp at q0 q1
    by_cases hlt : k < ys.length
    · obtain ⟨ad, rfl, hbl, hcell⟩ := (RW.out.past Hb.out).at_ hlt
      have hc1 := hcell k hlt
      rw [getD_at hlt, HY.out k hlt] at hc1
      have hkb : k < bs.length := by rw [HBl.out]; exact hlt
      have hbk := HBB.out _ (List.getElem_mem hkb)
      rw [getD_at hkb] at hc1
      obtain ⟨i, hi⟩ : ∃ i : Nat, bs[k] = i := ⟨(bs[k]).toNat, by omega⟩
      rw [hi] at hc1 hbk
      have bl := levW_bd Hq.out hbk.1 hbk.2
      have bq := ls_bd Hq.out
      have hidx := idx_lev Hq.out hbk.2
      have HI := Lib.hid hidx
      have TK : Hid (bs.take (k + 1) = bs.take k ++ [(i : Int)]) := by show _ = _; rw [List.take_succ_eq_append_getElem hkb, hi]
      have lk : Hid ((bs.take k).length = k) := by show _ = _; rw [List.length_take]; omega
      obtain ⟨v, hv⟩ : ∃ v, v = levW l s i := ⟨_, rfl⟩
      have HV := Lib.hid hv
      rw [← hv] at hc1 bl
      have t0 : (v != v) = false := by simp
      clear hcell hi hidx hv
      go_wp2_with fail
      refine (implIndexOf_yes l s v _ Hq.out (by omega) (by omega)).mono ?_; rintro e w2 ⟨rfl, h2⟩
      rw [HV.out, HI.out, ← HV.out]
      have HB2 := Lib.hid (HB.out.past h2)
      have Hb2 := Lib.hid (thenB Hb.out h2)
      have O2 := Lib.hid (own_past hO.out h2)
      have z2 : w1.heap.size ≤ w2.heap.size := Nat.le_trans zr h2.size
      clear q0 q1 h2 HB Hb hO
      have q0 := HB2.out.cell 0
      have q1 := HB2.out.cell 1
      simp at q0 q1
      go_wp2_with fail
      refine (implLevelOf_yes l s i _ Hq.out (by omega) hbk.2).mono ?_; rintro e w3 ⟨rfl, h3⟩
      rw [← HV.out]
      have HB3 := Lib.hid (HB2.out.past h3)
      have Hb3 := Lib.hid (thenB Hb2.out h3)
      have O3 := Lib.hid (own_past O2.out h3)
      have z3 : w1.heap.size ≤ w3.heap.size := Nat.le_trans z2 h3.size
      clear q0 q1 h3 HB2 Hb2 O2 hc1
      go_wp2_with (at_builtin; refine app_new rfl (.tmp 39) (.tmp 41) rfl w1.heap.size Aq cq k _ _ lk.out rfl O3.out rfl (by omega) z3 ?_)
      intro A4 c4 w4 O4 hw4 mv4
      have HB4 := Lib.hid (blk_wrote HB3.out hw4 (own_lo O3.out) z1)
      have Hb4 := Lib.hid (below_app Hb3.out hw4 (own_mono O3.out (Nat.le_of_lt z1)) Hb3.out.size)
      have z4 : w1.heap.size ≤ w4.heap.size := Nat.le_trans z3 hw4.size
      have HO4 := Lib.hid O4
      clear hw4 mv4 O4 HB3 Hb3 O3
      go_wp2
      go_roundw
      case rel => exact ⟨k + 1, A4, c4, by omega, z4, by go_num, rfl, by rw [TK.out]; exact HO4.out, HB4.out, Hb4.out⟩
      case measure => simp [intOf]; omega
    · obtain rfl : k = ys.length := by omega
      have hO' := hO.out
      rw [List.take_of_length_le (by rw [HBl.out]; exact Nat.le_refl _)] at hO'
      have HO' := Lib.hid hO'
      clear hO' hO
      go_wp2
      go_ret2
      exact ⟨Aq, cq, rfl, own_mono HO'.out (Nat.le_of_lt z1), Hb.out⟩
end Go.Proofs.YtgkijkenbjjnmaaGreatDoor
