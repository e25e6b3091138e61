/- Contracts of the two ParseModulator. (Printed by mkparm.py.) -/
import Derived.Test.YtgkijkenbjjnmaaGreatDoorParS
import Derived.Test.YtgkijkenbjjnmaaGreatDoorFmtM
import Derived.Test.YtgkijkenbjjnmaaGreatDoorOrdM
namespace Go.Proofs.YtgkijkenbjjnmaaGreatDoor
open Go.RowKit
set_option linter.unusedVariables false
set_option linter.unusedSimpArgs false
def RetPM (w : World) (X : Md) (e : Ending) (w' : World) : Prop := ∃ A c, e = .returned (.tuple #[.agg #[.int .i64 X.levels, .int .i64 X.step, .slice A X.coefs.length c], .bool X.ok]) ∧ Own w' w.heap.size A c X.coefs ∧ Below w.heap.size w w'
theorem parmW_no {a b c d : List UInt8} (h : (decide (a = modT) && rdB b && rdB c && (pars d).2 && modOk (rdV b) (rdV c) (pars d).1) = false) : parmW a b c d = noMd := by unfold parmW; rw [if_neg (by rw [h]; decide)]
theorem parm_at {l a b c d : List UInt8} (h : spl 32 l = [a, b, c, d]) : parm l = parmW a b c d := by unfold parm; rw [h]; rfl
theorem own_cell0 {w : World} {B c g : Nat} {a b x d : List UInt8} (h : OwnS w B (some ⟨g, 0, none⟩) c ([a, b, x, d].map bs)) : w.cell? ⟨g, 0, none⟩ = some (.string (bs a)) ∧ w.cell? ⟨g, 1, none⟩ = some (.string (bs b)) ∧ w.cell? ⟨g, 2, none⟩ = some (.string (bs x)) ∧ w.cell? ⟨g, 3, none⟩ = some (.string (bs d)) :=
  ⟨ownS_cell h (k := 0) (by simp), ownS_cell h (k := 1) (by simp), ownS_cell h (k := 2) (by simp), ownS_cell h (k := 3) (by simp)⟩
theorem implParM_res {tmps : Array Value} {g : Nat} {w : World} {v0 v1 v2 b : Value} (hp : tmps.getD 2 undef = .pointer (some ⟨g, 0, none⟩)) (hb : tmps.getD 3 undef = b) (c0 : w.cell? ⟨g, 0, none⟩ = some v0) (c1 : w.cell? ⟨g, 1, none⟩ = some v1) (c2 : w.cell? ⟨g, 2, none⟩ = some v2) :
    (results Tryz.f44 tmps).run Tryz.prog w = .ok (.tuple #[.agg #[v0, v1, v2], b]) w := by
  have hp' := hp
  have hb' := hb
  simp at hp' hb'
  simp only [results, Tryz.results44]
  simp [go_sem, hp', hb', c0, c1, c2]
theorem specParM_res {tmps : Array Value} {g : Nat} {w : World} {v0 v1 v2 b : Value} (hp : tmps.getD 2 undef = .pointer (some ⟨g, 0, none⟩)) (hb : tmps.getD 3 undef = b) (c0 : w.cell? ⟨g, 0, none⟩ = some v0) (c1 : w.cell? ⟨g, 1, none⟩ = some v1) (c2 : w.cell? ⟨g, 2, none⟩ = some v2) :
    (results Tryz.f75 tmps).run Tryz.prog w = .ok (.tuple #[.agg #[v0, v1, v2], b]) w := by
  have hp' := hp
  have hb' := hb
  simp at hp' hb'
  simp only [results, Tryz.results75]
  simp [go_sem, hp', hb', c0, c1, c2]
theorem readG (l : List UInt8) (hn : l.length ≤ 9223372036854775807) (W : World) : Calls Tryz.prog 90 #[.string (bs l)] W fun e w' => (∃ v : Int, e = .returned (.tuple #[.int .i64 v, .bool (rdB l)]) ∧ (rdB l = true → v = rdV l)) ∧ W = w' :=
  (implRead_any (bs l) W (by rw [bs_size]; exact hn)).mono fun e w' ⟨v, he, hv, hw⟩ => by
    have e1 : (bs l).data.toList = l := by simp [bs]
    rw [e1] at he hv
    exact ⟨⟨v, he, hv⟩, hw⟩
theorem specG (l : List UInt8) (hn : l.length ≤ 9223372036854775807) (W : World) : Calls Tryz.prog 119 #[.string (bs l)] W fun e w' => e = .returned (.tuple #[.int .i64 (rdV l), .bool (rdB l)]) ∧ W = w' := by
  have := l7Read_any (bs l) W (by rw [bs_size]; exact hn)
  have e1 : (bs l).data.toList = l := by simp [bs]
  rwa [e1] at this
set_option maxRecDepth 100000 in
set_option maxHeartbeats 1000000 in
theorem implParM_any (s : ByteArray) (w : World) (hs : s.size ≤ 4000000000) : Calls Tryz.prog 44 #[.string s] w (RetPM w (parm s.data.toList)) := by
  have hl := sizeL s
  have hsp := spl_len 32 s.data.toList
  have hcall := fun W => split_any s 32 W (by omega)
  have HM : Hid (∀ p ∈ spl 32 s.data.toList, p.length ≤ 4000000000) := fun p hp => by have := (spl_mem hp).2; omega
  have BR := Blk.new w 27 #[.int .i64 0, .int .i64 0, .slice none 0 0]
  have Hb : Hid (Below w.heap.size w (w.alloc (.cells #[.int .i64 0, .int .i64 0, .slice none 0 0] 27))) := (Below.refl _ _).alloc (Nat.le_refl _) _
  have HC := Lib.hid hcall
  by_cases h4 : (spl 32 s.data.toList).length = 4
  · obtain ⟨a, b, c, d, he⟩ := four_of h4
    have HY := Lib.hid (parm_at he)
    rw [he] at HM hcall
    have na := HM.out a (by simp)
    have nb := HM.out b (by simp)
    have nc := HM.out c (by simp)
    have nd := HM.out d (by simp)
    have HRb := Lib.hid (fun W => readG b (by omega) W)
    have HRc := Lib.hid (fun W => readG c (by omega) W)
    have ed : (bs d).data.toList = d := by simp [bs]
    have hp := fun W => implPars_any (bs d) W (by rw [bs_size]; omega)
    rw [ed] at hp
    have HP := Lib.hid hp
    have HPL := Lib.hid (pars_len d)
    replace HC := Lib.hid hcall
    rw [HY.out]
    clear he h4 hsp hl hcall HY HM na nb nc nd ed hp
    by_cases hm : a = modT
    · have ta : (bs a).toList = [109, 111, 100] := by rw [ByteArray.toList_eq, hm]; rfl
      have ta2 : ((bs a).toList == [109, 111, 100]) = true := by rw [ta]; rfl
      have ta3 : ((bs a).toList != [109, 111, 100]) = false := by rw [ta]; rfl
      have HNo : Hid (∀ v1 v2 : Int, (rdB b = true → v1 = rdV b) → (rdB c = true → v2 = rdV c) → (rdB b && rdB c && (pars d).2 && modOk v1 v2 (pars d).1) = false → parmW a b c d = noMd) := fun v1 v2 h1 h2 h => by
        refine parmW_no ?_
        cases hb : rdB b with
        | false => simp
        | true =>
          cases hc : rdB c with
          | false => simp
          | true =>
            rw [h1 hb, h2 hc, hb, hc] at h
            simp only [Bool.true_and, Bool.and_true] at h ⊢
            rw [Bool.and_assoc, h]; simp
      have HYes : Hid (∀ v1 v2 : Int, (rdB b = true → v1 = rdV b) → (rdB c = true → v2 = rdV c) → (rdB b && rdB c && (pars d).2 && modOk v1 v2 (pars d).1) = true → parmW a b c d = ⟨v1, v2, (pars d).1, true⟩) := fun v1 v2 h1 h2 h => by
        simp only [Bool.and_eq_true] at h
        obtain ⟨⟨⟨q1, q2⟩, q3⟩, q4⟩ := h
        rw [h1 q1, h2 q2] at q4 ⊢
        unfold parmW; rw [if_pos (by simp [hm, q1, q2, q3, q4])]
      obtain ⟨Y, hY⟩ : ∃ Y, Y = parmW a b c d := ⟨_, rfl⟩
      obtain ⟨X, hX⟩ : ∃ X, X = pars d := ⟨_, rfl⟩
      rw [← hY, ← hX] at HNo HYes
      rw [← hY]
      rw [← hX] at HP HPL
      obtain ⟨cs, K3⟩ := X
      clear hY hX ta hm
      obtain ⟨VB, hVB⟩ : ∃ V, V = rdV b := ⟨_, rfl⟩
      obtain ⟨VC, hVC⟩ : ∃ V, V = rdV c := ⟨_, rfl⟩
      obtain ⟨K1, hK1⟩ : ∃ K, K = rdB b := ⟨_, rfl⟩
      obtain ⟨K2, hK2⟩ : ∃ K, K = rdB c := ⟨_, rfl⟩
      rw [← hVB, ← hK1] at HRb
      rw [← hVC, ← hK2] at HRc
      rw [← hVB, ← hVC, ← hK1, ← hK2] at HNo HYes
      clear hVB hVC hK1 hK2
      have HI : Hid (∀ (v1 v2 : Int) A c W, Rd W W.heap.size A cs → Calls Tryz.prog 54 #[.agg #[.int .i64 v1, .int .i64 v2, .slice A cs.length c]] W fun e w' => e = .returned (.bool (modOk v1 v2 cs)) ∧ Below W.heap.size W w') := fun v1 v2 A c W h => implIsModulator_any v1 v2 A c cs W h (by have : cs.length ≤ 1000 := HPL.out; omega)
      rcases Bool.eq_false_or_eq_true K1 with k1 | k1
      case inr =>
        subst k1
        go_enter Tryz.func44, Tryz.ntmps44
        go_wp2_with fail
        (with_reducible refine (HC.out _).mono ?_)
        rintro e w1 ⟨Ap, cp, rfl, Op, h1⟩
        obtain ⟨g, rfl, _, _⟩ := ownS_head Op (by simp)
        obtain ⟨q0, q1, q2, q3⟩ := own_cell0 Op
        have e4 : ([a, b, c, d].map bs).length = 4 := rfl
        rw [e4]
        have hg := (ownS_lt Op _ rfl).1
        simp at hg
        replace BR := BR.past h1
        replace Hb := Lib.hid (thenB Hb.out h1)
        have f0 := BR.frozen 0
        have f1 := BR.frozen 1
        have f2 := BR.frozen 2
        have r0 := BR.cell 0
        have r1 := BR.cell 1
        have r2 := BR.cell 2
        simp at r0 r1 r2
        have OP := Lib.hid Op
        clear Op h1 e4
        go_wp2_with fail
        (with_reducible refine (HRb.out _).mono ?_)
        rintro e w2 ⟨⟨v1, rfl, hv1⟩, rfl⟩
        have HV1 := Lib.hid hv1
        clear hv1
        go_wp2_with fail
        (with_reducible refine (HRc.out _).mono ?_)
        rintro e w2 ⟨⟨v2, rfl, hv2⟩, rfl⟩
        have HV2 := Lib.hid hv2
        clear hv2
        go_wp2_with fail
        (with_reducible refine (HP.out _).mono ?_)
        rintro e w2 ⟨A, cA, rfl, OA, h2⟩
        replace BR := BR.past h2
        have z2 : w.heap.size < w2.heap.size := BR.lt
        replace Hb := Lib.hid (thenB Hb.out h2)
        have hlo : Lo A w1.heap.size := own_lo OA
        have z1 : w1.heap.size ≤ w2.heap.size := h2.size
        have z0 : w.heap.size < w1.heap.size := by omega
        have HO := Lib.hid OA
        clear q0 q1 q2 q3 f0 f1 f2 r0 r1 r2 h2 OA OP
        have f0 := BR.frozen 0
        have f1 := BR.frozen 1
        have f2 := BR.frozen 2
        have r0 := BR.cell 0
        have r1 := BR.cell 1
        have r2 := BR.cell 2
        simp at r0 r1 r2
        have HN := Lib.hid (HNo.out v1 v2 HV1.out HV2.out (by simp))
        clear HNo HYes
        go_wp2_with fail
        have RF : Blk (((w2.setCell ⟨w.heap.size, 0, none⟩ (.int .i64 0)).setCell ⟨w.heap.size, 1, none⟩ (.int .i64 0)).setCell ⟨w.heap.size, 2, none⟩ (.slice none 0 0)) w.heap.size 27 #[.int .i64 0, .int .i64 0, .slice none 0 0] := ((BR.set_ 0 (.int .i64 0)).set_ 1 (.int .i64 0)).set_ 2 (.slice none 0 0)
        have HbF := Lib.hid (((Hb.out.setCell (p := ⟨w.heap.size, 0, none⟩) (Nat.le_refl _) (.int .i64 0)).setCell (p := ⟨w.heap.size, 1, none⟩) (Nat.le_refl _) (.int .i64 0)).setCell (p := ⟨w.heap.size, 2, none⟩) (Nat.le_refl _) (.slice none 0 0))
        replace RF := RF.alloc (.cells #[.int .i64 v1, .int .i64 v2, .slice A cs.length cA] 27)
        replace HbF := Lib.hid (HbF.out.alloc HbF.out.size (.cells #[.int .i64 v1, .int .i64 v2, .slice A cs.length cA] 27))
        rw [HN.out]
        refine bodyPost_ret (implParM_res (b := .bool false) rfl rfl (RF.cell 0) (RF.cell 1) (RF.cell 2)) rfl ?_
        exact ⟨none, 0, rfl, own_nil _ _, HbF.out⟩
      case inl =>
        subst k1
        rcases Bool.eq_false_or_eq_true K2 with k2 | k2
        case inr =>
          subst k2
          go_enter Tryz.func44, Tryz.ntmps44
          go_wp2_with fail
          (with_reducible refine (HC.out _).mono ?_)
          rintro e w1 ⟨Ap, cp, rfl, Op, h1⟩
          obtain ⟨g, rfl, _, _⟩ := ownS_head Op (by simp)
          obtain ⟨q0, q1, q2, q3⟩ := own_cell0 Op
          have e4 : ([a, b, c, d].map bs).length = 4 := rfl
          rw [e4]
          have hg := (ownS_lt Op _ rfl).1
          simp at hg
          replace BR := BR.past h1
          replace Hb := Lib.hid (thenB Hb.out h1)
          have f0 := BR.frozen 0
          have f1 := BR.frozen 1
          have f2 := BR.frozen 2
          have r0 := BR.cell 0
          have r1 := BR.cell 1
          have r2 := BR.cell 2
          simp at r0 r1 r2
          have OP := Lib.hid Op
          clear Op h1 e4
          go_wp2_with fail
          (with_reducible refine (HRb.out _).mono ?_)
          rintro e w2 ⟨⟨v1, rfl, hv1⟩, rfl⟩
          have HV1 := Lib.hid hv1
          clear hv1
          go_wp2_with fail
          (with_reducible refine (HRc.out _).mono ?_)
          rintro e w2 ⟨⟨v2, rfl, hv2⟩, rfl⟩
          have HV2 := Lib.hid hv2
          clear hv2
          go_wp2_with fail
          (with_reducible refine (HP.out _).mono ?_)
          rintro e w2 ⟨A, cA, rfl, OA, h2⟩
          replace BR := BR.past h2
          have z2 : w.heap.size < w2.heap.size := BR.lt
          replace Hb := Lib.hid (thenB Hb.out h2)
          have hlo : Lo A w1.heap.size := own_lo OA
          have z1 : w1.heap.size ≤ w2.heap.size := h2.size
          have z0 : w.heap.size < w1.heap.size := by omega
          have HO := Lib.hid OA
          clear q0 q1 q2 q3 f0 f1 f2 r0 r1 r2 h2 OA OP
          have f0 := BR.frozen 0
          have f1 := BR.frozen 1
          have f2 := BR.frozen 2
          have r0 := BR.cell 0
          have r1 := BR.cell 1
          have r2 := BR.cell 2
          simp at r0 r1 r2
          have HN := Lib.hid (HNo.out v1 v2 HV1.out HV2.out (by simp))
          clear HNo HYes
          go_wp2_with fail
          have RF : Blk (((w2.setCell ⟨w.heap.size, 0, none⟩ (.int .i64 0)).setCell ⟨w.heap.size, 1, none⟩ (.int .i64 0)).setCell ⟨w.heap.size, 2, none⟩ (.slice none 0 0)) w.heap.size 27 #[.int .i64 0, .int .i64 0, .slice none 0 0] := ((BR.set_ 0 (.int .i64 0)).set_ 1 (.int .i64 0)).set_ 2 (.slice none 0 0)
          have HbF := Lib.hid (((Hb.out.setCell (p := ⟨w.heap.size, 0, none⟩) (Nat.le_refl _) (.int .i64 0)).setCell (p := ⟨w.heap.size, 1, none⟩) (Nat.le_refl _) (.int .i64 0)).setCell (p := ⟨w.heap.size, 2, none⟩) (Nat.le_refl _) (.slice none 0 0))
          replace RF := RF.alloc (.cells #[.int .i64 v1, .int .i64 v2, .slice A cs.length cA] 27)
          replace HbF := Lib.hid (HbF.out.alloc HbF.out.size (.cells #[.int .i64 v1, .int .i64 v2, .slice A cs.length cA] 27))
          rw [HN.out]
          refine bodyPost_ret (implParM_res (b := .bool false) rfl rfl (RF.cell 0) (RF.cell 1) (RF.cell 2)) rfl ?_
          exact ⟨none, 0, rfl, own_nil _ _, HbF.out⟩
        case inl =>
          subst k2
          rcases Bool.eq_false_or_eq_true K3 with k3 | k3
          case inr =>
            subst k3
            go_enter Tryz.func44, Tryz.ntmps44
            go_wp2_with fail
            (with_reducible refine (HC.out _).mono ?_)
            rintro e w1 ⟨Ap, cp, rfl, Op, h1⟩
            obtain ⟨g, rfl, _, _⟩ := ownS_head Op (by simp)
            obtain ⟨q0, q1, q2, q3⟩ := own_cell0 Op
            have e4 : ([a, b, c, d].map bs).length = 4 := rfl
            rw [e4]
            have hg := (ownS_lt Op _ rfl).1
            simp at hg
            replace BR := BR.past h1
            replace Hb := Lib.hid (thenB Hb.out h1)
            have f0 := BR.frozen 0
            have f1 := BR.frozen 1
            have f2 := BR.frozen 2
            have r0 := BR.cell 0
            have r1 := BR.cell 1
            have r2 := BR.cell 2
            simp at r0 r1 r2
            have OP := Lib.hid Op
            clear Op h1 e4
            go_wp2_with fail
            (with_reducible refine (HRb.out _).mono ?_)
            rintro e w2 ⟨⟨v1, rfl, hv1⟩, rfl⟩
            have HV1 := Lib.hid hv1
            clear hv1
            go_wp2_with fail
            (with_reducible refine (HRc.out _).mono ?_)
            rintro e w2 ⟨⟨v2, rfl, hv2⟩, rfl⟩
            have HV2 := Lib.hid hv2
            clear hv2
            go_wp2_with fail
            (with_reducible refine (HP.out _).mono ?_)
            rintro e w2 ⟨A, cA, rfl, OA, h2⟩
            replace BR := BR.past h2
            have z2 : w.heap.size < w2.heap.size := BR.lt
            replace Hb := Lib.hid (thenB Hb.out h2)
            have hlo : Lo A w1.heap.size := own_lo OA
            have z1 : w1.heap.size ≤ w2.heap.size := h2.size
            have z0 : w.heap.size < w1.heap.size := by omega
            have HO := Lib.hid OA
            clear q0 q1 q2 q3 f0 f1 f2 r0 r1 r2 h2 OA OP
            have f0 := BR.frozen 0
            have f1 := BR.frozen 1
            have f2 := BR.frozen 2
            have r0 := BR.cell 0
            have r1 := BR.cell 1
            have r2 := BR.cell 2
            simp at r0 r1 r2
            have HN := Lib.hid (HNo.out v1 v2 HV1.out HV2.out (by simp))
            clear HNo HYes
            go_wp2_with fail
            have RF : Blk (((w2.setCell ⟨w.heap.size, 0, none⟩ (.int .i64 0)).setCell ⟨w.heap.size, 1, none⟩ (.int .i64 0)).setCell ⟨w.heap.size, 2, none⟩ (.slice none 0 0)) w.heap.size 27 #[.int .i64 0, .int .i64 0, .slice none 0 0] := ((BR.set_ 0 (.int .i64 0)).set_ 1 (.int .i64 0)).set_ 2 (.slice none 0 0)
            have HbF := Lib.hid (((Hb.out.setCell (p := ⟨w.heap.size, 0, none⟩) (Nat.le_refl _) (.int .i64 0)).setCell (p := ⟨w.heap.size, 1, none⟩) (Nat.le_refl _) (.int .i64 0)).setCell (p := ⟨w.heap.size, 2, none⟩) (Nat.le_refl _) (.slice none 0 0))
            replace RF := RF.alloc (.cells #[.int .i64 v1, .int .i64 v2, .slice A cs.length cA] 27)
            replace HbF := Lib.hid (HbF.out.alloc HbF.out.size (.cells #[.int .i64 v1, .int .i64 v2, .slice A cs.length cA] 27))
            rw [HN.out]
            refine bodyPost_ret (implParM_res (b := .bool false) rfl rfl (RF.cell 0) (RF.cell 1) (RF.cell 2)) rfl ?_
            exact ⟨none, 0, rfl, own_nil _ _, HbF.out⟩
          case inl =>
            subst k3
            go_enter Tryz.func44, Tryz.ntmps44
            go_wp2_with fail
            (with_reducible refine (HC.out _).mono ?_)
            rintro e w1 ⟨Ap, cp, rfl, Op, h1⟩
            obtain ⟨g, rfl, _, _⟩ := ownS_head Op (by simp)
            obtain ⟨q0, q1, q2, q3⟩ := own_cell0 Op
            have e4 : ([a, b, c, d].map bs).length = 4 := rfl
            rw [e4]
            have hg := (ownS_lt Op _ rfl).1
            simp at hg
            replace BR := BR.past h1
            replace Hb := Lib.hid (thenB Hb.out h1)
            have f0 := BR.frozen 0
            have f1 := BR.frozen 1
            have f2 := BR.frozen 2
            have r0 := BR.cell 0
            have r1 := BR.cell 1
            have r2 := BR.cell 2
            simp at r0 r1 r2
            have OP := Lib.hid Op
            clear Op h1 e4
            go_wp2_with fail
            (with_reducible refine (HRb.out _).mono ?_)
            rintro e w2 ⟨⟨v1, rfl, hv1⟩, rfl⟩
            have HV1 := Lib.hid hv1
            clear hv1
            go_wp2_with fail
            (with_reducible refine (HRc.out _).mono ?_)
            rintro e w2 ⟨⟨v2, rfl, hv2⟩, rfl⟩
            have HV2 := Lib.hid hv2
            clear hv2
            go_wp2_with fail
            (with_reducible refine (HP.out _).mono ?_)
            rintro e w2 ⟨A, cA, rfl, OA, h2⟩
            replace BR := BR.past h2
            have z2 : w.heap.size < w2.heap.size := BR.lt
            replace Hb := Lib.hid (thenB Hb.out h2)
            have hlo : Lo A w1.heap.size := own_lo OA
            have z1 : w1.heap.size ≤ w2.heap.size := h2.size
            have z0 : w.heap.size < w1.heap.size := by omega
            have HO := Lib.hid OA
            clear q0 q1 q2 q3 f0 f1 f2 r0 r1 r2 h2 OA OP
            have f0 := BR.frozen 0
            have f1 := BR.frozen 1
            have f2 := BR.frozen 2
            have r0 := BR.cell 0
            have r1 := BR.cell 1
            have r2 := BR.cell 2
            simp at r0 r1 r2
            have BM := Blk.new w2 27 #[.int .i64 v1, .int .i64 v2, .slice A cs.length cA]
            have bx : Below w2.heap.size w2 (w2.alloc (.cells #[.int .i64 v1, .int .i64 v2, .slice A cs.length cA] 27)) := (Below.refl _ _).alloc (Nat.le_refl _) _
            replace BR := BR.past bx
            replace Hb := Lib.hid (thenB Hb.out bx)
            have O2 := Lib.hid (own_past HO.out bx)
            have hI := HI.out v1 v2 A cA _ (own_rd O2.out)
            obtain ⟨K4, hK4⟩ : ∃ K, K = modOk v1 v2 cs := ⟨_, rfl⟩
            rw [← hK4] at hI
            have HK4 := Lib.hid hK4
            have HI2 := Lib.hid hI
            have m0 := BM.cell 0
            have m1 := BM.cell 1
            have m2 := BM.cell 2
            simp at m0 m1 m2
            clear bx hI hK4 f0 f1 f2 r0 r1 r2 HI
            rcases Bool.eq_false_or_eq_true K4 with k4 | k4
            all_goals
              subst k4
              go_wp2_with fail
              refine HI2.out.mono ?_
              rintro e w3 ⟨rfl, h3⟩
              replace BR := BR.past h3
              replace BM := BM.past h3
              replace Hb := Lib.hid (thenB Hb.out h3)
              replace O2 := Lib.hid (own_past O2.out h3)
              have z3 : w2.heap.size < w3.heap.size := BM.lt
              clear m0 m1 m2 h3
              have f0 := BR.frozen 0
              have f1 := BR.frozen 1
              have f2 := BR.frozen 2
              have r0 := BR.cell 0
              have r1 := BR.cell 1
              have r2 := BR.cell 2
              have m0 := BM.cell 0
              have m1 := BM.cell 1
              have m2 := BM.cell 2
              simp at r0 r1 r2 m0 m1 m2
              go_wp2_with fail
            · have HN := Lib.hid (HYes.out v1 v2 HV1.out HV2.out (by rw [← HK4.out]; rfl))
              have RF : Blk (((w3.setCell ⟨w.heap.size, 0, none⟩ (.int .i64 v1)).setCell ⟨w.heap.size, 1, none⟩ (.int .i64 v2)).setCell ⟨w.heap.size, 2, none⟩ (.slice A cs.length cA)) w.heap.size 27 #[.int .i64 v1, .int .i64 v2, .slice A cs.length cA] := ((BR.set_ 0 (.int .i64 v1)).set_ 1 (.int .i64 v2)).set_ 2 (.slice A cs.length cA)
              have HbF := Lib.hid (((Hb.out.setCell (p := ⟨w.heap.size, 0, none⟩) (Nat.le_refl _) (.int .i64 v1)).setCell (p := ⟨w.heap.size, 1, none⟩) (Nat.le_refl _) (.int .i64 v2)).setCell (p := ⟨w.heap.size, 2, none⟩) (Nat.le_refl _) (.slice A cs.length cA))
              have T1 := turn_set (turn_refl w3 w.heap.size) (p := ⟨w.heap.size, 0, none⟩) rfl (.int .i64 v1)
              have T2 := turn_set T1 (p := ⟨w.heap.size, 1, none⟩) rfl (.int .i64 v2)
              have T3 := turn_set T2 (p := ⟨w.heap.size, 2, none⟩) rfl (.slice A cs.length cA)
              have OF := own_grown (own_mono O2.out (show w.heap.size ≤ w1.heap.size by omega)) T3 (fun a e e' => by have h1 := hlo a e; have h2 := Option.some.inj e'; omega)
              rw [HN.out]
              refine bodyPost_ret (implParM_res (b := .bool true) rfl rfl (RF.cell 0) (RF.cell 1) (RF.cell 2)) rfl ?_
              exact ⟨A, cA, rfl, OF, HbF.out⟩
            · have HN := Lib.hid (HNo.out v1 v2 HV1.out HV2.out (by rw [← HK4.out]; rfl))
              have RF : Blk (((w3.setCell ⟨w.heap.size, 0, none⟩ (.int .i64 0)).setCell ⟨w.heap.size, 1, none⟩ (.int .i64 0)).setCell ⟨w.heap.size, 2, none⟩ (.slice none 0 0)) w.heap.size 27 #[.int .i64 0, .int .i64 0, .slice none 0 0] := ((BR.set_ 0 (.int .i64 0)).set_ 1 (.int .i64 0)).set_ 2 (.slice none 0 0)
              have HbF := Lib.hid (((Hb.out.setCell (p := ⟨w.heap.size, 0, none⟩) (Nat.le_refl _) (.int .i64 0)).setCell (p := ⟨w.heap.size, 1, none⟩) (Nat.le_refl _) (.int .i64 0)).setCell (p := ⟨w.heap.size, 2, none⟩) (Nat.le_refl _) (.slice none 0 0))
              rw [HN.out]
              refine bodyPost_ret (implParM_res (b := .bool false) rfl rfl (RF.cell 0) (RF.cell 1) (RF.cell 2)) rfl ?_
              exact ⟨none, 0, rfl, own_nil _ _, HbF.out⟩
    · have ta : (bs a).toList ≠ [109, 111, 100] := by rw [ByteArray.toList_eq]; simpa [bs, modT] using hm
      have ta2 : ((bs a).toList == [109, 111, 100]) = false := by simpa using ta
      have ta3 : ((bs a).toList != [109, 111, 100]) = true := by simpa using ta
      have HY : Hid (parmW a b c d = noMd) := by show _ = _; exact parmW_no (by simp [hm])
      rw [HY.out]
      clear hm ta HRb HRc HP HPL
      go_enter Tryz.func44, Tryz.ntmps44
      go_wp2_with fail
      (with_reducible refine (HC.out _).mono ?_)
      rintro e w1 ⟨Ap, cp, rfl, Op, h1⟩
      obtain ⟨g, rfl, _, _⟩ := ownS_head Op (by simp)
      obtain ⟨q0, q1, q2, q3⟩ := own_cell0 Op
      have e4 : ([a, b, c, d].map bs).length = 4 := rfl
      rw [e4]
      have hg := (ownS_lt Op _ rfl).1
      simp at hg
      replace BR := BR.past h1
      replace Hb := Lib.hid (thenB Hb.out h1)
      have f0 := BR.frozen 0
      have f1 := BR.frozen 1
      have f2 := BR.frozen 2
      have r0 := BR.cell 0
      have r1 := BR.cell 1
      have r2 := BR.cell 2
      simp at r0 r1 r2
      have OP := Lib.hid Op
      clear Op h1 e4
      go_wp2_with fail
      have RF : Blk (((w1.setCell ⟨w.heap.size, 0, none⟩ (.int .i64 0)).setCell ⟨w.heap.size, 1, none⟩ (.int .i64 0)).setCell ⟨w.heap.size, 2, none⟩ (.slice none 0 0)) w.heap.size 27 #[.int .i64 0, .int .i64 0, .slice none 0 0] := ((BR.set_ 0 (.int .i64 0)).set_ 1 (.int .i64 0)).set_ 2 (.slice none 0 0)
      have HbF := Lib.hid (((Hb.out.setCell (p := ⟨w.heap.size, 0, none⟩) (Nat.le_refl _) (.int .i64 0)).setCell (p := ⟨w.heap.size, 1, none⟩) (Nat.le_refl _) (.int .i64 0)).setCell (p := ⟨w.heap.size, 2, none⟩) (Nat.le_refl _) (.slice none 0 0))
      refine bodyPost_ret (implParM_res (b := .bool false) rfl rfl (RF.cell 0) (RF.cell 1) (RF.cell 2)) rfl ?_
      exact ⟨none, 0, rfl, own_nil _ _, HbF.out⟩
  · rw [parm_few h4]
    have hn4 : ((spl 32 s.data.toList).map bs).length ≠ 4 := by rw [List.length_map]; exact h4
    have hn5 : ((spl 32 s.data.toList).map bs).length ≤ 5000000000 := by rw [List.length_map]; omega
    obtain ⟨Z, hZ⟩ : ∃ Z, Z = (spl 32 s.data.toList).map bs := ⟨_, rfl⟩
    rw [← hZ] at hcall hn4 hn5
    replace HC := Lib.hid hcall
    obtain ⟨n, hn⟩ : ∃ n, n = Z.length := ⟨_, rfl⟩
    have Hn := Lib.hid hn
    rw [← hn] at hn4 hn5
    have t4 : ((n : Int) != 4) = true := by rw [bne_iff_ne]; omega
    clear hcall hZ hsp hl h4 HM hn hn4
    go_enter Tryz.func44, Tryz.ntmps44
    go_wp2_with fail
    (with_reducible refine (HC.out _).mono ?_)
    rintro e w1 ⟨Ap, cp, rfl, Op, h1⟩
    have hn := Hn.out
    rw [← hn]
    clear hn
    replace BR := BR.past h1
    replace Hb := Lib.hid (thenB Hb.out h1)
    have f0 := BR.frozen 0
    have f1 := BR.frozen 1
    have f2 := BR.frozen 2
    have r0 := BR.cell 0
    have r1 := BR.cell 1
    have r2 := BR.cell 2
    simp at r0 r1 r2
    have OP := Lib.hid Op
    clear Op h1
    go_wp2_with fail
    have RF : Blk (((w1.setCell ⟨w.heap.size, 0, none⟩ (.int .i64 0)).setCell ⟨w.heap.size, 1, none⟩ (.int .i64 0)).setCell ⟨w.heap.size, 2, none⟩ (.slice none 0 0)) w.heap.size 27 #[.int .i64 0, .int .i64 0, .slice none 0 0] := ((BR.set_ 0 (.int .i64 0)).set_ 1 (.int .i64 0)).set_ 2 (.slice none 0 0)
    have HbF := Lib.hid (((Hb.out.setCell (p := ⟨w.heap.size, 0, none⟩) (Nat.le_refl _) (.int .i64 0)).setCell (p := ⟨w.heap.size, 1, none⟩) (Nat.le_refl _) (.int .i64 0)).setCell (p := ⟨w.heap.size, 2, none⟩) (Nat.le_refl _) (.slice none 0 0))
    refine bodyPost_ret (implParM_res (b := .bool false) rfl rfl (RF.cell 0) (RF.cell 1) (RF.cell 2)) rfl ?_
    exact ⟨none, 0, rfl, own_nil _ _, HbF.out⟩
set_option maxRecDepth 100000 in
set_option maxHeartbeats 1000000 in
theorem specParM_any (s : ByteArray) (w : World) (hs : s.size ≤ 4000000000) : Calls Tryz.prog 75 #[.string s] w (RetPM w (parm s.data.toList)) := by
  have hl := sizeL s
  have hsp := spl_len 32 s.data.toList
  have hcall : ∀ W, Calls Tryz.prog 69 #[.string s, .int .u8 32] W (RetSS W ((spl 32 s.data.toList).map bs)) := fun W => l7Split_any s 32 W (by omega)
  have HM : Hid (∀ p ∈ spl 32 s.data.toList, p.length ≤ 4000000000) := fun p hp => by have := (spl_mem hp).2; omega
  have BR := Blk.new w 27 #[.int .i64 0, .int .i64 0, .slice none 0 0]
  have Hb : Hid (Below w.heap.size w (w.alloc (.cells #[.int .i64 0, .int .i64 0, .slice none 0 0] 27))) := (Below.refl _ _).alloc (Nat.le_refl _) _
  by_cases h4 : (spl 32 s.data.toList).length = 4
  · obtain ⟨a, b, c, d, he⟩ := four_of h4
    have HY := Lib.hid (parm_spec he)
    rw [he] at HM hcall
    have na := HM.out a (by simp)
    have nb := HM.out b (by simp)
    have nc := HM.out c (by simp)
    have nd := HM.out d (by simp)
    have HRb := Lib.hid (fun W => specG b (by omega) W)
    have HRc := Lib.hid (fun W => specG c (by omega) W)
    have ed : (bs d).data.toList = d := by simp [bs]
    have hp := fun W => specPars_any (bs d) W (by rw [bs_size]; omega)
    rw [ed] at hp
    have HP := Lib.hid hp
    have HPL := Lib.hid (pars_len d)
    have HC := Lib.hid hcall
    clear he h4 hsp hl hcall HM na nb nc nd ed hp
    have HY2 : Hid (parm s.data.toList = if parmT s.data.toList (rdV b) (rdV c) (pars d).1 then ⟨rdV b, rdV c, (pars d).1, true⟩ else noMd) := HY.out
    obtain ⟨Y, hY⟩ : ∃ Y, Y = parm s.data.toList := ⟨_, rfl⟩
    rw [← hY] at HY2 ⊢
    obtain ⟨X, hX⟩ : ∃ X, X = pars d := ⟨_, rfl⟩
    rw [← hX] at HP HPL HY2
    obtain ⟨cs, K3⟩ := X
    clear hY hX HY
    obtain ⟨VB, hVB⟩ : ∃ V, V = rdV b := ⟨_, rfl⟩
    obtain ⟨VC, hVC⟩ : ∃ V, V = rdV c := ⟨_, rfl⟩
    obtain ⟨K1, hK1⟩ : ∃ K, K = rdB b := ⟨_, rfl⟩
    obtain ⟨K2, hK2⟩ : ∃ K, K = rdB c := ⟨_, rfl⟩
    rw [← hVB, ← hK1] at HRb
    rw [← hVC, ← hK2] at HRc
    rw [← hVB, ← hVC] at HY2
    clear hVB hVC hK1 hK2
    have HI : Hid (∀ A c W, Rd W W.heap.size A cs → Calls Tryz.prog 61 #[.agg #[.int .i64 VB, .int .i64 VC, .slice A cs.length c]] W fun e w' => e = .returned (.bool (modOk VB VC cs)) ∧ Below W.heap.size W w') := fun A c W h => specIsModulator_any VB VC A c cs W h (by have : cs.length ≤ 1000 := HPL.out; omega)
    have HF : Hid (∀ A c W, Rd W W.heap.size A cs → cs.length ≤ c ∧ c ≤ maxLen → Calls Tryz.prog 20 #[.agg #[.int .i64 VB, .int .i64 VC, .slice A cs.length c]] W fun e w' => e = .returned (.string (bs (fmtMI VB VC cs))) ∧ Below W.heap.size W w') := fun A c W h k => specFormatM_any VB VC A c cs W h (by have : cs.length ≤ 1000 := HPL.out; omega) k.1 (by have := k.2; unfold maxLen at this; exact this)
    have ways : (modOk VB VC cs = false ∧ Y = noMd) ∨ (modOk VB VC cs = true ∧ ((bs (fmtMI VB VC cs)).toList == s.toList) = false ∧ Y = noMd) ∨ (modOk VB VC cs = true ∧ ((bs (fmtMI VB VC cs)).toList == s.toList) = true ∧ Y = ⟨VB, VC, cs, true⟩) := by
      rw [ByteArray.toList_eq, ByteArray.toList_eq, show (bs (fmtMI VB VC cs)).data.toList = fmtMI VB VC cs by simp [bs], HY2.out]
      cases h1 : modOk VB VC cs with
      | false => exact .inl ⟨rfl, by rw [if_neg]; simp [parmT, h1]⟩
      | true =>
        have e : fmtMI VB VC cs = fmtM VB VC cs := by simp [fmtMI, h1]
        rw [e]
        by_cases h2 : fmtM VB VC cs = s.data.toList
        · exact .inr (.inr ⟨rfl, by simp [h2], by rw [if_pos]; simp [parmT, h1, h2]⟩)
        · exact .inr (.inl ⟨rfl, by simp [h2], by rw [if_neg]; simp [parmT, h1, h2]⟩)
    obtain ⟨F, hF⟩ : ∃ F, F = bs (fmtMI VB VC cs) := ⟨_, rfl⟩
    rw [← hF] at HF ways
    obtain ⟨K4, hK4⟩ : ∃ K, K = modOk VB VC cs := ⟨_, rfl⟩
    rw [← hK4] at HI ways
    clear hF hK4 HY2
    rcases ways with ⟨rfl, hy⟩ | ⟨rfl, tf, hy⟩ | ⟨rfl, tf, hy⟩
    · have HN := Lib.hid hy
      clear hy HF
      go_enter Tryz.func75, Tryz.ntmps75
      go_wp2_with fail
      (with_reducible refine (HC.out _).mono ?_)
      rintro e w1 ⟨Ap, cp, rfl, Op, h1⟩
      obtain ⟨g, rfl, _, _⟩ := ownS_head Op (by simp)
      obtain ⟨q0, q1, q2, q3⟩ := own_cell0 Op
      have e4 : ([a, b, c, d].map bs).length = 4 := rfl
      rw [e4]
      have hg := (ownS_lt Op _ rfl).1
      simp at hg
      replace BR := BR.past h1
      replace Hb := Lib.hid (thenB Hb.out h1)
      have f0 := BR.frozen 0
      have f1 := BR.frozen 1
      have f2 := BR.frozen 2
      have r0 := BR.cell 0
      have r1 := BR.cell 1
      have r2 := BR.cell 2
      simp at r0 r1 r2
      have OP := Lib.hid Op
      clear Op h1 e4
      have BM := Blk.new w1 27 #[.int .i64 VB, .int .i64 VC, .slice none 0 0]
      have bx : Below w1.heap.size w1 (w1.alloc (.cells #[.int .i64 VB, .int .i64 VC, .slice none 0 0] 27)) := (Below.refl _ _).alloc (Nat.le_refl _) _
      have z0 : w.heap.size < w1.heap.size := BR.lt
      replace BR := BR.past bx
      replace Hb := Lib.hid (thenB Hb.out bx)
      clear bx
      go_wp2_with fail
      (with_reducible refine (HRb.out _).mono ?_)
      rintro e w2 ⟨rfl, rfl⟩
      go_wp2_with fail
      (with_reducible refine (HRc.out _).mono ?_)
      rintro e w2 ⟨rfl, rfl⟩
      go_wp2_with fail
      (with_reducible refine (HP.out _).mono ?_)
      rintro e w2 ⟨A, cA, rfl, OA, h2⟩
      replace BR := BR.past h2
      replace BM := BM.past h2
      have z2 : w1.heap.size < w2.heap.size := BM.lt
      replace Hb := Lib.hid (thenB Hb.out h2)
      have hlo : Lo A (w1.heap.size + 1) := by have := own_lo OA; simpa using this
      have hcap := Lib.hid (own_cap OA)
      clear q0 q1 q2 q3 f0 f1 f2 r0 r1 r2 h2 OP
      have m0 := BM.frozen 2
      have BM2 := BM.set_ 2 (.slice A cs.length cA)
      have BR2 := BR.far (p := ⟨w1.heap.size, 2, none⟩) (by simp; omega) (.slice A cs.length cA)
      have Hb2 := Lib.hid (Hb.out.setCell (p := ⟨w1.heap.size, 2, none⟩) (show w.heap.size ≤ w1.heap.size by omega) (.slice A cs.length cA))
      have O2 := own_grown OA (w' := w2.setCell ⟨w1.heap.size, 2, none⟩ (.slice A cs.length cA)) (row := some w1.heap.size) (turn_set (turn_refl w2 _) rfl _) (fun a e e' => by have h1 := hlo a e; have h2 := Option.some.inj e'; omega)
      have c2 := BM.cell 2
      simp at c2
      have z3 : (w2.setCell ⟨w1.heap.size, 2, none⟩ (.slice A cs.length cA)).heap.size = w2.heap.size := by simp [World.setCell]
      have RD := Lib.hid (own_rd O2)
      have HO := Lib.hid (show Own (w2.setCell ⟨w1.heap.size, 2, none⟩ (.slice A cs.length cA)) (w1.heap.size + 1) A cA cs by have := O2; simpa using this)
      have i0 := BM2.cell 0
      have i1 := BM2.cell 1
      have i2 := BM2.cell 2
      simp at i0 i1 i2
      clear BR Hb OA O2 BM z3
      go_wp2_with fail
      (with_reducible refine (HI.out A cA _ RD.out).mono ?_)
      rintro e w3 ⟨rfl, h3⟩
      have BR := BR2.past h3
      have BM := BM2.past h3
      have Hb := Lib.hid (thenB Hb2.out h3)
      replace HO := Lib.hid (own_past HO.out h3)
      have z3 : w1.heap.size < w3.heap.size := BM.lt
      clear i0 i1 i2 m0 c2 BM2 BR2 Hb2 RD h3
      have f0 := BR.frozen 0
      have f1 := BR.frozen 1
      have f2 := BR.frozen 2
      have r0 := BR.cell 0
      have r1 := BR.cell 1
      have r2 := BR.cell 2
      have m0 := BM.cell 0
      have m1 := BM.cell 1
      have m2 := BM.cell 2
      simp at r0 r1 r2 m0 m1 m2
      go_wp2_with fail
      have RF : Blk (((w3.setCell ⟨w.heap.size, 0, none⟩ (.int .i64 0)).setCell ⟨w.heap.size, 1, none⟩ (.int .i64 0)).setCell ⟨w.heap.size, 2, none⟩ (.slice none 0 0)) w.heap.size 27 #[.int .i64 0, .int .i64 0, .slice none 0 0] := ((BR.set_ 0 (.int .i64 0)).set_ 1 (.int .i64 0)).set_ 2 (.slice none 0 0)
      have HbF := Lib.hid (((Hb.out.setCell (p := ⟨w.heap.size, 0, none⟩) (Nat.le_refl _) (.int .i64 0)).setCell (p := ⟨w.heap.size, 1, none⟩) (Nat.le_refl _) (.int .i64 0)).setCell (p := ⟨w.heap.size, 2, none⟩) (Nat.le_refl _) (.slice none 0 0))
      rw [HN.out]
      refine bodyPost_ret (specParM_res (b := .bool false) rfl rfl (RF.cell 0) (RF.cell 1) (RF.cell 2)) rfl ?_
      exact ⟨none, 0, rfl, own_nil _ _, HbF.out⟩
    · have HN := Lib.hid hy
      have tf2 : (F.toList != s.toList) = true := by rw [bne, tf]; rfl
      clear hy
      go_enter Tryz.func75, Tryz.ntmps75
      go_wp2_with fail
      (with_reducible refine (HC.out _).mono ?_)
      rintro e w1 ⟨Ap, cp, rfl, Op, h1⟩
      obtain ⟨g, rfl, _, _⟩ := ownS_head Op (by simp)
      obtain ⟨q0, q1, q2, q3⟩ := own_cell0 Op
      have e4 : ([a, b, c, d].map bs).length = 4 := rfl
      rw [e4]
      have hg := (ownS_lt Op _ rfl).1
      simp at hg
      replace BR := BR.past h1
      replace Hb := Lib.hid (thenB Hb.out h1)
      have f0 := BR.frozen 0
      have f1 := BR.frozen 1
      have f2 := BR.frozen 2
      have r0 := BR.cell 0
      have r1 := BR.cell 1
      have r2 := BR.cell 2
      simp at r0 r1 r2
      have OP := Lib.hid Op
      clear Op h1 e4
      have BM := Blk.new w1 27 #[.int .i64 VB, .int .i64 VC, .slice none 0 0]
      have bx : Below w1.heap.size w1 (w1.alloc (.cells #[.int .i64 VB, .int .i64 VC, .slice none 0 0] 27)) := (Below.refl _ _).alloc (Nat.le_refl _) _
      have z0 : w.heap.size < w1.heap.size := BR.lt
      replace BR := BR.past bx
      replace Hb := Lib.hid (thenB Hb.out bx)
      clear bx
      go_wp2_with fail
      (with_reducible refine (HRb.out _).mono ?_)
      rintro e w2 ⟨rfl, rfl⟩
      go_wp2_with fail
      (with_reducible refine (HRc.out _).mono ?_)
      rintro e w2 ⟨rfl, rfl⟩
      go_wp2_with fail
      (with_reducible refine (HP.out _).mono ?_)
      rintro e w2 ⟨A, cA, rfl, OA, h2⟩
      replace BR := BR.past h2
      replace BM := BM.past h2
      have z2 : w1.heap.size < w2.heap.size := BM.lt
      replace Hb := Lib.hid (thenB Hb.out h2)
      have hlo : Lo A (w1.heap.size + 1) := by have := own_lo OA; simpa using this
      have hcap := Lib.hid (own_cap OA)
      clear q0 q1 q2 q3 f0 f1 f2 r0 r1 r2 h2 OP
      have m0 := BM.frozen 2
      have BM2 := BM.set_ 2 (.slice A cs.length cA)
      have BR2 := BR.far (p := ⟨w1.heap.size, 2, none⟩) (by simp; omega) (.slice A cs.length cA)
      have Hb2 := Lib.hid (Hb.out.setCell (p := ⟨w1.heap.size, 2, none⟩) (show w.heap.size ≤ w1.heap.size by omega) (.slice A cs.length cA))
      have O2 := own_grown OA (w' := w2.setCell ⟨w1.heap.size, 2, none⟩ (.slice A cs.length cA)) (row := some w1.heap.size) (turn_set (turn_refl w2 _) rfl _) (fun a e e' => by have h1 := hlo a e; have h2 := Option.some.inj e'; omega)
      have c2 := BM.cell 2
      simp at c2
      have z3 : (w2.setCell ⟨w1.heap.size, 2, none⟩ (.slice A cs.length cA)).heap.size = w2.heap.size := by simp [World.setCell]
      have RD := Lib.hid (own_rd O2)
      have HO := Lib.hid (show Own (w2.setCell ⟨w1.heap.size, 2, none⟩ (.slice A cs.length cA)) (w1.heap.size + 1) A cA cs by have := O2; simpa using this)
      have i0 := BM2.cell 0
      have i1 := BM2.cell 1
      have i2 := BM2.cell 2
      simp at i0 i1 i2
      clear BR Hb OA O2 BM z3
      go_wp2_with fail
      (with_reducible refine (HI.out A cA _ RD.out).mono ?_)
      rintro e w3 ⟨rfl, h3⟩
      have BR := BR2.past h3
      have BM := BM2.past h3
      have Hb := Lib.hid (thenB Hb2.out h3)
      replace HO := Lib.hid (own_past HO.out h3)
      have z3 : w1.heap.size < w3.heap.size := BM.lt
      clear i0 i1 i2 m0 c2 BM2 BR2 Hb2 RD h3
      have f0 := BR.frozen 0
      have f1 := BR.frozen 1
      have f2 := BR.frozen 2
      have r0 := BR.cell 0
      have r1 := BR.cell 1
      have r2 := BR.cell 2
      have m0 := BM.cell 0
      have m1 := BM.cell 1
      have m2 := BM.cell 2
      simp at r0 r1 r2 m0 m1 m2
      go_wp2_with fail
      (with_reducible refine (HF.out A cA _ (own_rd HO.out) hcap.out).mono ?_)
      rintro e w4 ⟨rfl, h4⟩
      replace BR := BR.past h4
      replace BM := BM.past h4
      replace Hb := Lib.hid (thenB Hb.out h4)
      replace HO := Lib.hid (own_past HO.out h4)
      have z4 : w1.heap.size < w4.heap.size := BM.lt
      clear m0 m1 m2 f0 f1 f2 r0 r1 r2 h4
      have f0 := BR.frozen 0
      have f1 := BR.frozen 1
      have f2 := BR.frozen 2
      have r0 := BR.cell 0
      have r1 := BR.cell 1
      have r2 := BR.cell 2
      have m0 := BM.cell 0
      have m1 := BM.cell 1
      have m2 := BM.cell 2
      simp at r0 r1 r2 m0 m1 m2
      go_wp2_with fail
      have RF : Blk (((w4.setCell ⟨w.heap.size, 0, none⟩ (.int .i64 0)).setCell ⟨w.heap.size, 1, none⟩ (.int .i64 0)).setCell ⟨w.heap.size, 2, none⟩ (.slice none 0 0)) w.heap.size 27 #[.int .i64 0, .int .i64 0, .slice none 0 0] := ((BR.set_ 0 (.int .i64 0)).set_ 1 (.int .i64 0)).set_ 2 (.slice none 0 0)
      have HbF := Lib.hid (((Hb.out.setCell (p := ⟨w.heap.size, 0, none⟩) (Nat.le_refl _) (.int .i64 0)).setCell (p := ⟨w.heap.size, 1, none⟩) (Nat.le_refl _) (.int .i64 0)).setCell (p := ⟨w.heap.size, 2, none⟩) (Nat.le_refl _) (.slice none 0 0))
      rw [HN.out]
      refine bodyPost_ret (specParM_res (b := .bool false) rfl rfl (RF.cell 0) (RF.cell 1) (RF.cell 2)) rfl ?_
      exact ⟨none, 0, rfl, own_nil _ _, HbF.out⟩
    · have HN := Lib.hid hy
      have tf2 : (F.toList != s.toList) = false := by rw [bne, tf]; rfl
      clear hy
      go_enter Tryz.func75, Tryz.ntmps75
      go_wp2_with fail
      (with_reducible refine (HC.out _).mono ?_)
      rintro e w1 ⟨Ap, cp, rfl, Op, h1⟩
      obtain ⟨g, rfl, _, _⟩ := ownS_head Op (by simp)
      obtain ⟨q0, q1, q2, q3⟩ := own_cell0 Op
      have e4 : ([a, b, c, d].map bs).length = 4 := rfl
      rw [e4]
      have hg := (ownS_lt Op _ rfl).1
      simp at hg
      replace BR := BR.past h1
      replace Hb := Lib.hid (thenB Hb.out h1)
      have f0 := BR.frozen 0
      have f1 := BR.frozen 1
      have f2 := BR.frozen 2
      have r0 := BR.cell 0
      have r1 := BR.cell 1
      have r2 := BR.cell 2
      simp at r0 r1 r2
      have OP := Lib.hid Op
      clear Op h1 e4
      have BM := Blk.new w1 27 #[.int .i64 VB, .int .i64 VC, .slice none 0 0]
      have bx : Below w1.heap.size w1 (w1.alloc (.cells #[.int .i64 VB, .int .i64 VC, .slice none 0 0] 27)) := (Below.refl _ _).alloc (Nat.le_refl _) _
      have z0 : w.heap.size < w1.heap.size := BR.lt
      replace BR := BR.past bx
      replace Hb := Lib.hid (thenB Hb.out bx)
      clear bx
      go_wp2_with fail
      (with_reducible refine (HRb.out _).mono ?_)
      rintro e w2 ⟨rfl, rfl⟩
      go_wp2_with fail
      (with_reducible refine (HRc.out _).mono ?_)
      rintro e w2 ⟨rfl, rfl⟩
      go_wp2_with fail
      (with_reducible refine (HP.out _).mono ?_)
      rintro e w2 ⟨A, cA, rfl, OA, h2⟩
      replace BR := BR.past h2
      replace BM := BM.past h2
      have z2 : w1.heap.size < w2.heap.size := BM.lt
      replace Hb := Lib.hid (thenB Hb.out h2)
      have hlo : Lo A (w1.heap.size + 1) := by have := own_lo OA; simpa using this
      have hcap := Lib.hid (own_cap OA)
      clear q0 q1 q2 q3 f0 f1 f2 r0 r1 r2 h2 OP
      have m0 := BM.frozen 2
      have BM2 := BM.set_ 2 (.slice A cs.length cA)
      have BR2 := BR.far (p := ⟨w1.heap.size, 2, none⟩) (by simp; omega) (.slice A cs.length cA)
      have Hb2 := Lib.hid (Hb.out.setCell (p := ⟨w1.heap.size, 2, none⟩) (show w.heap.size ≤ w1.heap.size by omega) (.slice A cs.length cA))
      have O2 := own_grown OA (w' := w2.setCell ⟨w1.heap.size, 2, none⟩ (.slice A cs.length cA)) (row := some w1.heap.size) (turn_set (turn_refl w2 _) rfl _) (fun a e e' => by have h1 := hlo a e; have h2 := Option.some.inj e'; omega)
      have c2 := BM.cell 2
      simp at c2
      have z3 : (w2.setCell ⟨w1.heap.size, 2, none⟩ (.slice A cs.length cA)).heap.size = w2.heap.size := by simp [World.setCell]
      have RD := Lib.hid (own_rd O2)
      have HO := Lib.hid (show Own (w2.setCell ⟨w1.heap.size, 2, none⟩ (.slice A cs.length cA)) (w1.heap.size + 1) A cA cs by have := O2; simpa using this)
      have i0 := BM2.cell 0
      have i1 := BM2.cell 1
      have i2 := BM2.cell 2
      simp at i0 i1 i2
      clear BR Hb OA O2 BM z3
      go_wp2_with fail
      (with_reducible refine (HI.out A cA _ RD.out).mono ?_)
      rintro e w3 ⟨rfl, h3⟩
      have BR := BR2.past h3
      have BM := BM2.past h3
      have Hb := Lib.hid (thenB Hb2.out h3)
      replace HO := Lib.hid (own_past HO.out h3)
      have z3 : w1.heap.size < w3.heap.size := BM.lt
      clear i0 i1 i2 m0 c2 BM2 BR2 Hb2 RD h3
      have f0 := BR.frozen 0
      have f1 := BR.frozen 1
      have f2 := BR.frozen 2
      have r0 := BR.cell 0
      have r1 := BR.cell 1
      have r2 := BR.cell 2
      have m0 := BM.cell 0
      have m1 := BM.cell 1
      have m2 := BM.cell 2
      simp at r0 r1 r2 m0 m1 m2
      go_wp2_with fail
      (with_reducible refine (HF.out A cA _ (own_rd HO.out) hcap.out).mono ?_)
      rintro e w4 ⟨rfl, h4⟩
      replace BR := BR.past h4
      replace BM := BM.past h4
      replace Hb := Lib.hid (thenB Hb.out h4)
      replace HO := Lib.hid (own_past HO.out h4)
      have z4 : w1.heap.size < w4.heap.size := BM.lt
      clear m0 m1 m2 f0 f1 f2 r0 r1 r2 h4
      have f0 := BR.frozen 0
      have f1 := BR.frozen 1
      have f2 := BR.frozen 2
      have r0 := BR.cell 0
      have r1 := BR.cell 1
      have r2 := BR.cell 2
      have m0 := BM.cell 0
      have m1 := BM.cell 1
      have m2 := BM.cell 2
      simp at r0 r1 r2 m0 m1 m2
      go_wp2_with fail
      have m0 := BM.cell 0
      have m1 := BM.cell 1
      have m2 := BM.cell 2
      simp at m0 m1 m2
      have RF : Blk (((w4.setCell ⟨w.heap.size, 0, none⟩ (.int .i64 VB)).setCell ⟨w.heap.size, 1, none⟩ (.int .i64 VC)).setCell ⟨w.heap.size, 2, none⟩ (.slice A cs.length cA)) w.heap.size 27 #[.int .i64 VB, .int .i64 VC, .slice A cs.length cA] := ((BR.set_ 0 (.int .i64 VB)).set_ 1 (.int .i64 VC)).set_ 2 (.slice A cs.length cA)
      have HbF := Lib.hid (((Hb.out.setCell (p := ⟨w.heap.size, 0, none⟩) (Nat.le_refl _) (.int .i64 VB)).setCell (p := ⟨w.heap.size, 1, none⟩) (Nat.le_refl _) (.int .i64 VC)).setCell (p := ⟨w.heap.size, 2, none⟩) (Nat.le_refl _) (.slice A cs.length cA))
      have T1 := turn_set (turn_refl w4 w.heap.size) (p := ⟨w.heap.size, 0, none⟩) rfl (.int .i64 VB)
      have T2 := turn_set T1 (p := ⟨w.heap.size, 1, none⟩) rfl (.int .i64 VC)
      have T3 := turn_set T2 (p := ⟨w.heap.size, 2, none⟩) rfl (.slice A cs.length cA)
      have OF := own_grown (own_mono HO.out (show w.heap.size ≤ w1.heap.size + 1 by omega)) T3 (fun a e e' => by have h1 := hlo a e; have h2 := Option.some.inj e'; omega)
      rw [HN.out]
      refine bodyPost_ret (specParM_res (b := .bool true) rfl rfl (RF.cell 0) (RF.cell 1) (RF.cell 2)) rfl ?_
      exact ⟨A, cA, rfl, OF, HbF.out⟩
  · rw [parm_few h4]
    have hn4 : ((spl 32 s.data.toList).map bs).length ≠ 4 := by rw [List.length_map]; exact h4
    have hn5 : ((spl 32 s.data.toList).map bs).length ≤ 5000000000 := by rw [List.length_map]; omega
    obtain ⟨Z, hZ⟩ : ∃ Z, Z = (spl 32 s.data.toList).map bs := ⟨_, rfl⟩
    rw [← hZ] at hcall hn4 hn5
    replace HC := Lib.hid hcall
    obtain ⟨n, hn⟩ : ∃ n, n = Z.length := ⟨_, rfl⟩
    have Hn := Lib.hid hn
    rw [← hn] at hn4 hn5
    have t4 : ((n : Int) != 4) = true := by rw [bne_iff_ne]; omega
    clear hcall hZ hsp hl h4 HM hn hn4
    go_enter Tryz.func75, Tryz.ntmps75
    go_wp2_with fail
    (with_reducible refine (HC.out _).mono ?_)
    rintro e w1 ⟨Ap, cp, rfl, Op, h1⟩
    have hn := Hn.out
    rw [← hn]
    clear hn
    replace BR := BR.past h1
    replace Hb := Lib.hid (thenB Hb.out h1)
    have f0 := BR.frozen 0
    have f1 := BR.frozen 1
    have f2 := BR.frozen 2
    have r0 := BR.cell 0
    have r1 := BR.cell 1
    have r2 := BR.cell 2
    simp at r0 r1 r2
    have OP := Lib.hid Op
    clear Op h1
    go_wp2_with fail
    have RF : Blk (((w1.setCell ⟨w.heap.size, 0, none⟩ (.int .i64 0)).setCell ⟨w.heap.size, 1, none⟩ (.int .i64 0)).setCell ⟨w.heap.size, 2, none⟩ (.slice none 0 0)) w.heap.size 27 #[.int .i64 0, .int .i64 0, .slice none 0 0] := ((BR.set_ 0 (.int .i64 0)).set_ 1 (.int .i64 0)).set_ 2 (.slice none 0 0)
    have HbF := Lib.hid (((Hb.out.setCell (p := ⟨w.heap.size, 0, none⟩) (Nat.le_refl _) (.int .i64 0)).setCell (p := ⟨w.heap.size, 1, none⟩) (Nat.le_refl _) (.int .i64 0)).setCell (p := ⟨w.heap.size, 2, none⟩) (Nat.le_refl _) (.slice none 0 0))
    refine bodyPost_ret (specParM_res (b := .bool false) rfl rfl (RF.cell 0) (RF.cell 1) (RF.cell 2)) rfl ?_
    exact ⟨none, 0, rfl, own_nil _ _, HbF.out⟩
end Go.Proofs.YtgkijkenbjjnmaaGreatDoor
