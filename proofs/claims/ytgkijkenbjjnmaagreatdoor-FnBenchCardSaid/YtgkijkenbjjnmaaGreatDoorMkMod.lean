/- Contracts of MakeQuantiser, the reference's OrderModulator and MakeModulator; of RangeOf and SafeInput. -/
import Derived.Test.YtgkijkenbjjnmaaGreatDoorMod
import Derived.Test.YtgkijkenbjjnmaaGreatDoorGen
import Derived.Test.YtgkijkenbjjnmaaGreatDoorCopy
import Derived.Test.YtgkijkenbjjnmaaGreatDoorMat
import Derived.Test.YtgkijkenbjjnmaaGreatDoorSeq2
import Derived.Deep.RegionLaw
namespace Go.Proofs.YtgkijkenbjjnmaaGreatDoor
open Go.RowKit
set_option linter.unusedVariables false
set_option linter.unusedSimpArgs false
theorem specIsQuantiser_any (l s : Int) (w : World) :
    Calls Tryz.prog 87 #[.agg #[.int .i64 l, .int .i64 s]] w fun e w' => e = .returned (.bool (quantOk l s)) ∧ Below w.heap.size w w' := by
  go_enter Tryz.func87, Tryz.ntmps87
  go_wp2_with (go_at_call 108; refine (l1In_any _ _ _ _).mono ?_; rintro e w' ⟨rfl, rfl⟩)
  all_goals (go_ret; exact ⟨ret_bool (by simp [quantOk, *]), (Below.refl _ _).alloc (Nat.le_refl _) _⟩)
theorem implRange_yes (l s : Int) (w : World) (hq : quantOk l s = true) :
    Calls Tryz.prog 65 #[.agg #[.int .i64 l, .int .i64 s]] w fun e w' => e = .returned (.int .i64 (l * s)) ∧ Below w.heap.size w w' := by
  have bs := ls_bd hq
  have sw : IntKind.i64.wrap (l * s) = l * s := Go.IntWalk.i64_in _ (by omega)
  have hb0 : Below w.heap.size w (w.alloc (.cells #[.int .i64 l, .int .i64 s] 24)) := (Below.refl _ _).alloc (Nat.le_refl _) _
  have B0 := Blk.new w 24 #[.int .i64 l, .int .i64 s]
  have Hb0 := Lib.hid hb0
  have q0 := B0.cell 0
  have q1 := B0.cell 1
  simp at q0 q1
  clear hb0 bs
  go_enter Tryz.func65, Tryz.ntmps65
  go_wp2_with fail
  refine (implIsQuantiser_any _ _ _).mono ?_; rintro e w1 ⟨rfl, h3⟩
  have B1 := B0.past h3
  have Hb1 := Lib.hid (thenB Hb0.out h3)
  clear q0 q1 B0 h3 Hb0
  have q0 := B1.cell 0
  have q1 := B1.cell 1
  simp at q0 q1
  clear B1
  go_wp2
  go_ret
  exact ⟨rfl, Hb1.out⟩
def absTo (cs : List Int) (k : Nat) : Int := sumF (fun i => absI (cs.getD i 0)) k
theorem absTo_bd {cs : List Int} (h : ∀ c ∈ cs, -100 ≤ c ∧ c ≤ 100) : ∀ k : Nat, 0 ≤ absTo cs k ∧ absTo cs k ≤ 100 * (k : Int)
  | 0 => by simp [absTo, sumF]
  | k + 1 => by
    have ih := absTo_bd h k
    have hc := coef_getD h k
    have e : absTo cs (k + 1) = absTo cs k + absI (cs.getD k 0) := rfl
    rw [e]; unfold absI; omega
def safeW (l s : Int) (cs : List Int) : Int := if -1 < l * s - s * absTo cs cs.length then l * s - s * absTo cs cs.length else -1
def RetQ (w : World) (e : Ending) (w' : World) : Prop := ∃ (l s : Nat), e = .returned (.agg #[.int .i64 l, .int .i64 s]) ∧ 2 ≤ l ∧ l ≤ 6 ∧ 1 ≤ s ∧ s ≤ 64 ∧ Below w.heap.size w w'
theorem MakeQuantiser_res {tmps : Array Value} {g : Nat} {w : World} {v0 v1 : Value} (hp : tmps.getD 2 undef = .pointer (some ⟨g, 0, none⟩)) (c0 : w.cell? ⟨g, 0, none⟩ = some v0) (c1 : w.cell? ⟨g, 1, none⟩ = some v1) :
    (results Tryz.f37 tmps).run Tryz.prog w = .ok (.agg #[v0, v1]) w := by
  have hp' := hp
  simp at hp'
  simp only [results, Tryz.results37]
  simp [go_sem, hp', c0, c1]
set_option maxRecDepth 100000 in
set_option maxHeartbeats 400000 in
theorem MakeQuantiser_any (A : Option Addr) (c n : Nat) (w : World) (hr : RdB w w.heap.size A n) (hn : n ≤ 4294967296) : Calls Tryz.prog 37 #[.slice A n c] w (RetQ w) := by
  have hb0 : Below w.heap.size w (w.alloc (.cells #[.int .i64 0, .int .i64 0] 24)) := (Below.refl _ _).alloc (Nat.le_refl _) _
  have B0 := Blk.new w 24 #[.int .i64 0, .int .i64 0]
  have R0 := hr.past hb0
  have Hb := Lib.hid hb0
  clear hb0
  go_enter Tryz.func37, Tryz.ntmps37
  go_wp2_with fail
  refine (l01New_any _ _ _ _ R0 hn).mono ?_; rintro e w1 ⟨g, rfl, hg, C1, h1⟩
  have B1 := B0.past h1
  replace Hb := Lib.hid (thenB Hb.out h1)
  have hg0 : w.heap.size < g := by simp at hg; omega
  have hz1 : w.heap.size + 1 ≤ w1.heap.size := B1.lt
  clear h1 B0 R0 hg
  go_wp2_with fail
  refine (l01Below_any g _ _ C1 (by omega) (by omega)).mono ?_; rintro e w2 ⟨v, rfl, v1, v2, C2, T2⟩
  have B2 := blk_turn B1 T2 (by omega)
  replace Hb := Lib.hid (turn_past Hb.out T2 (by omega) (by omega))
  have hz2 : w.heap.size < w2.heap.size := B2.lt
  have hg2 : g < w2.heap.size := C2.lt
  clear T2 B1 C1
  have bx : Below w2.heap.size w2 (w2.alloc (.cells #[.int .i64 1, .int .i64 2, .int .i64 3, .int .i64 16, .int .i64 50, .int .i64 64] 3)) := (Below.refl _ _).alloc (Nat.le_refl _) _
  have O4 := own_cells (xs := [1, 2, 3, 16, 50, 64]) w2 #[.int .i64 1, .int .i64 2, .int .i64 3, .int .i64 16, .int .i64 50, .int .i64 64] (Nat.le_refl _) rfl (by simp [maxLen])
  have R4 := Lib.hid (own_rd O4)
  have B4 := B2.past bx
  replace Hb := Lib.hid (thenB Hb.out bx)
  have C4 := C2.past bx
  have ha : Hid (∀ a, some (⟨w2.heap.size, 0, none⟩ : Addr) = some a → a.block ≠ g) := fun a e => by injection e with e; subst e; exact Nat.ne_of_gt hg2
  clear bx O4 B2 C2
  go_wp2_with fail
  refine (l01Int_any g _ 6 [1, 2, 3, 16, 50, 64] _ C4 R4.out ha (by simp) (by simp)).mono ?_; rintro e w5 ⟨k, rfl, hk, C5, T5⟩
  have B5 := blk_turn B4 T5 (by omega)
  replace Hb := Lib.hid (turn_past Hb.out T5 (by simp; omega) (by omega))
  have c0 := B5.cell 0
  have c1 := B5.cell 1
  have f0 := B5.frozen 0
  have f1 := B5.frozen 1
  simp at c0 c1
  clear T5 B4 C4
  go_wp2_with fail
  have D := (B5.set_ 0 (.int .i64 (2 + v))).set_ 1 (.int .i64 k)
  have d0 := D.cell 0
  have d1 := D.cell 1
  simp at d0 d1
  refine bodyPost_ret (MakeQuantiser_res rfl d0 d1) rfl ?_
  obtain ⟨j, hj⟩ : ∃ j : Nat, 2 + v = j := ⟨(2 + v).toNat, by omega⟩
  have hkb : 1 ≤ k ∧ k ≤ 64 := by simp at hk; omega
  obtain ⟨i, hi⟩ : ∃ i : Nat, k = i := ⟨k.toNat, by omega⟩
  exact ⟨j, i, by rw [hj, hi], by omega, by omega, by omega, by omega, (Hb.out.setCell (by simp) _).setCell (by simp) _⟩
set_option maxHeartbeats 1000000 in
theorem implSafe_yes (l s : Int) (A : Option Addr) (c : Nat) (cs : List Int) (w : World) (hr : Rd w w.heap.size A cs) (h : modOk l s cs = true) :
    Calls Tryz.prog 23 #[.agg #[.int .i64 l, .int .i64 s, .slice A cs.length c]] w fun e w' => e = .returned (.int .i64 (safeW l s cs)) ∧ Below w.heap.size w w' := by
  obtain ⟨hc, hq, c1, c2⟩ := mod_parts h
  have bs := ls_bd hq
  obtain ⟨l1, l2, s1, s2⟩ := quant_parts hq
  have ha := absTo_bd hc
  have hp : 0 ≤ s * absTo cs cs.length ∧ s * absTo cs cs.length ≤ 1073741824 * 600 := by
    have h1 := ha cs.length
    exact ⟨Int.mul_nonneg (by omega) h1.1, Int.mul_le_mul s2 (by omega) h1.1 (by omega)⟩
  have HA := Lib.hid ha
  have HC := Lib.hid hc
  have hcall := implIsModulator_any l s A c cs (w.alloc (.cells #[.int .i64 l, .int .i64 s, .slice A cs.length c] 27))
  have hb0 : Below w.heap.size w (w.alloc (.cells #[.int .i64 l, .int .i64 s, .slice A cs.length c] 27)) := (Below.refl _ _).alloc (Nat.le_refl _) _
  have hcall := hcall (hr.past hb0) (by omega)
  rw [h] at hcall
  have B0 := Blk.new w 27 #[.int .i64 l, .int .i64 s, .slice A cs.length c]
  have Hb := Lib.hid hb0
  have R0 := Lib.hid (hr.past hb0)
  have Hc := Lib.hid hcall
  have q0 := B0.cell 0
  have q1 := B0.cell 1
  have q2 := B0.cell 2
  simp at q0 q1 q2
  have HY : Hid (safeW l s cs = if -1 < l * s - s * absTo cs cs.length then l * s - s * absTo cs cs.length else -1) := rfl
  have HQ := Lib.hid hq
  clear hb0 hcall hr ha hc h hq
  go_enter Tryz.func23, Tryz.ntmps23
  go_wp2_with fail
  refine Hc.out.mono ?_; rintro e w1 ⟨rfl, h1⟩
  have B1 := B0.past h1
  replace Hb := Lib.hid (thenB Hb.out h1)
  have R1 := Lib.hid (R0.out.past h1)
  clear q0 q1 q2 B0 R0 Hc h1
  have q0 := B1.cell 0
  have q1 := B1.cell 1
  have q2 := B1.cell 2
  simp at q0 q1 q2
  go_wp2_with fail
  go_loop [3, 12] (fun m i => ∃ j : Nat, j ≤ cs.length ∧ i = .int .i64 j ∧ m = .int .i64 (absTo cs j)) (fun _ i => cs.length - (intOf i).toNat)
  case atStart => exact ⟨0, by omega, rfl, rfl⟩
  case round =>
    obtain ⟨j, hj, rfl, rfl⟩ := hrel
    by_cases hlt : j < cs.length
    · obtain ⟨a1, rfl, _, z1⟩ := R1.out.at_ hlt
      have k1 := z1 j hlt
      have b1 := coef_getD HC.out j
      have b2 := HA.out j
      have hs : Hid (absTo cs (j + 1) = absTo cs j + absI (cs.getD j 0)) := rfl
      obtain ⟨v, hv⟩ : ∃ v, v = cs.getD j 0 := ⟨_, rfl⟩
      rw [← hv] at k1 b1 hs
      have b3 : 0 ≤ absI v ∧ absI v ≤ 100 := by unfold absI; omega
      clear z1 hv
      go_wp2_with (go_at_call 64; refine (size_any _ _ (by omega) (by omega)).mono ?_; rintro e w' ⟨rfl, rfl⟩)
      go_round
      case rel => exact ⟨j + 1, by omega, by go_num, by rw [hs.out]⟩
      case measure => simp [intOf]; omega
    · obtain rfl : j = cs.length := by omega
      obtain ⟨a, hae⟩ : ∃ a, a = absTo cs cs.length := ⟨_, rfl⟩
      rw [← hae] at hp HY ⊢
      obtain ⟨P, hP⟩ : ∃ P, P = s * a := ⟨_, rfl⟩
      have eP : s * a = P := hP.symm
      rw [eP] at hp HY
      have sP : IntKind.i64.wrap P = P := Go.IntWalk.i64_in _ (by omega)
      obtain ⟨R, hR⟩ : ∃ R, R = l * s := ⟨_, rfl⟩
      rw [← hR] at bs HY
      have Hr : Hid (∀ W, Calls Tryz.prog 65 #[.agg #[.int .i64 l, .int .i64 s]] W fun e w' => e = .returned (.int .i64 R) ∧ Below W.heap.size W w') := fun W => by rw [hR]; exact implRange_yes l s W HQ.out
      clear hae hP hR
      have bx := (Below.refl w1.heap.size w1).drew
      have B2 := B1.past bx
      replace Hb := Lib.hid (thenB Hb.out bx)
      clear q0 q1 q2 bx
      have q0 := B2.cell 0
      have q1 := B2.cell 1
      simp at q0 q1
      have sX : IntKind.i64.wrap (R - P) = R - P := Go.IntWalk.i64_in _ (by omega)
      rcases Int.lt_or_le (-1) (R - P) with hx | hx
      all_goals
        go_wp2_with fail
        go_region_held3 (fun w' => w'.cell? ⟨w.heap.size, 0, none⟩ = some (.int .i64 l) ∧ w'.cell? ⟨w.heap.size, 1, none⟩ = some (.int .i64 s)) (first | go_keep)
          (first | (go_at_call 65; refine (Hr.out _).mono ?_; rintro e w2 ⟨rfl, h2⟩; replace B2 := B2.past h2; replace Hb := Lib.hid (thenB Hb.out h2); clear q0 q1 h2; have q0 := B2.cell 0; have q1 := B2.cell 1; simp at q0 q1))
        go_wp2
        go_ret
        exact ⟨ret_int (by rw [HY.out]; split <;> omega), Hb.out⟩
theorem rd_drop' {w : World} {B g o : Nat} {xs : List Int} (h : Rd w B (some ⟨g, o, none⟩) xs) (i : Nat) : Rd w B (some ⟨g, o + i, none⟩) (xs.drop i) := fun h0 => by
  have hl : (xs.drop i).length = xs.length - i := List.length_drop
  obtain ⟨ad, e, hb, hc⟩ := h (by omega)
  obtain rfl := Option.some.inj e
  refine ⟨_, rfl, hb, fun j hj => ?_⟩
  have := hc (i + j) (by omega)
  rw [Addr.add_lit] at this ⊢
  rw [Nat.add_assoc, this]
  simp [List.getD, List.getElem?_drop]
def NotB (A : Option Addr) (g : Nat) : Prop := ∀ a, A = some a → a.block ≠ g
def MetMo (W : World) (g : Nat) (l s : Int) (x : List Int) (A : Option Addr) (c : Nat) (wx : World) : Prop :=
  W.heap.size ≤ g ∧ Blk wx g 27 #[.int .i64 l, .int .i64 s, .slice A x.length c] ∧ Own wx W.heap.size A c x ∧ NotB A g ∧ Below W.heap.size W wx
theorem metMo_after {W w3 w4 : World} {l s : Int} {x : List Int} {A : Option Addr} {c : Nat} (hW : Below W.heap.size W w4) (hs : W.heap.size ≤ w3.heap.size) (oa : Own w4 w3.heap.size A c x) :
    MetMo W w4.heap.size l s x A c (w4.alloc (.cells #[.int .i64 l, .int .i64 s, .slice A x.length c] 27)) := by
  have bx : Below w4.heap.size w4 (w4.alloc (.cells #[.int .i64 l, .int .i64 s, .slice A x.length c] 27)) := (Below.refl _ _).alloc (Nat.le_refl _) _
  exact ⟨hW.size, Blk.new _ _ _, own_past (own_mono oa hs) bx, fun a e => by have := own_hi oa a e; omega, thenB hW bx⟩
theorem metMo_before {W w4 : World} {g n : Nat} {l s : Int} {x : List Int} {z : Array Value} {A : Option Addr} {c : Nat} (hW : Below W.heap.size W w4) (hg : W.heap.size ≤ g) (hgn : g < n) (hz : z.size = 3) (hb : Blk w4 g 27 z) (oa : Own w4 n A c x) :
    MetMo W g l s x A c (((w4.setCell ⟨g, 0, none⟩ (.int .i64 l)).setCell ⟨g, 1, none⟩ (.int .i64 s)).setCell ⟨g, 2, none⟩ (.slice A x.length c)) := by
  have T1 := turn_set (turn_refl w4 g) (p := ⟨g, 0, none⟩) rfl (.int .i64 l)
  have T2 := turn_set T1 (p := ⟨g, 1, none⟩) rfl (.int .i64 s)
  have T3 := turn_set T2 (p := ⟨g, 2, none⟩) rfl (.slice A x.length c)
  have na : NotB A g := fun a e => by have := own_lo oa a e; omega
  have hB := ((hb.set_ 0 (.int .i64 l)).set_ 1 (.int .i64 s)).set_ 2 (.slice A x.length c)
  have e : ((z.setIfInBounds 0 (.int .i64 l)).setIfInBounds 1 (.int .i64 s)).setIfInBounds 2 (.slice A x.length c) = #[.int .i64 l, .int .i64 s, .slice A x.length c] := by
    obtain ⟨z⟩ := z
    match z, hz with
    | [a, b, c], _ => simp
  rw [e] at hB
  exact ⟨hg, hB, own_grown (own_mono oa (by omega)) T3 (fun a e e' => na a e (Option.some.inj e')), na, ((hW.setCell hg _).setCell hg _).setCell hg _⟩
theorem specOrder_res {tmps : Array Value} {g : Nat} {w : World} {v0 v1 v2 b : Value} (hp : tmps.getD 4 undef = .pointer (some ⟨g, 0, none⟩)) (hb : tmps.getD 5 undef = b) (c0 : w.cell? ⟨g, 0, none⟩ = some v0) (c1 : w.cell? ⟨g, 1, none⟩ = some v1) (c2 : w.cell? ⟨g, 2, none⟩ = some v2) :
    (results Tryz.f39 tmps).run Tryz.prog w = .ok (.tuple #[.agg #[v0, v1, v2], b]) w := by
  have hp' := hp
  have hb' := hb
  simp at hp' hb'
  simp only [results, Tryz.results39]
  simp [go_sem, hp', hb', c0, c1, c2]
set_option maxHeartbeats 1000000 in
theorem specOrder_yes (l s : Int) (k : Nat) (w : World) (hq : quantOk l s = true) (k1 : 1 ≤ k) (k2 : k ≤ 6) :
    Calls Tryz.prog 39 #[.agg #[.int .i64 l, .int .i64 s], .int .i64 k] w (fun e w' => ∃ A c, e = .returned (.tuple #[.agg #[.int .i64 l, .int .i64 s, .slice A k c], .bool true]) ∧ Own w' w.heap.size A c ((coefs k).drop 1) ∧ Below w.heap.size w w') := by
  have hce : coefsI (k : Int) = coefs k := coefsI_yes k k2
  have hcall := fun W => specDifferenceCoefs_any (k : Int) W
  rw [hce] at hcall
  have Hc := Lib.hid hcall
  have HDl : Hid ((coefs k).length = k + 1) := coefs_length k
  have HXl : Hid (((coefs k).drop 1).length = k) := by show _ = _; rw [List.length_drop, coefs_length]; rfl
  have hqc := fun W => specIsQuantiser_any l s W
  rw [hq] at hqc
  have HQ := Lib.hid hqc
  obtain ⟨D, hD⟩ : ∃ D, D = coefs k := ⟨_, rfl⟩
  rw [← hD] at Hc HDl HXl ⊢
  clear hce hcall hD hqc hq
  obtain ⟨W, hW⟩ : ∃ W, W = (w.alloc (.cells #[.int .i64 l, .int .i64 s] 24)).alloc (.cells #[.int .i64 0, .int .i64 0, .slice none 0 0] 27) := ⟨_, rfl⟩
  have Hb : Hid (Below w.heap.size w W) := by rw [hW]; exact ((Below.refl _ _).alloc (Nat.le_refl _) _).alloc (by simp) _
  have BQ : Blk W w.heap.size 24 #[.int .i64 l, .int .i64 s] := by
    rw [hW]; exact (Blk.new w 24 #[.int .i64 l, .int .i64 s]).alloc _
  have BM : Blk W (w.heap.size + 1) 27 #[.int .i64 0, .int .i64 0, .slice none 0 0] := by
    rw [hW]; have := Blk.new (w.alloc (.cells #[.int .i64 l, .int .i64 s] 24)) 27 #[.int .i64 0, .int .i64 0, .slice none 0 0]
    exact (by simpa using this : Blk _ _ _ _)
  have HW := Lib.hid hW
  have zW : w.heap.size + 1 < W.heap.size := BM.lt
  clear hW
  go_enter Tryz.func39, Tryz.ntmps39
  go_wp2_with fail
  rw [← HW.out]
  refine (Hc.out W).mono ?_
  rintro e w3 ⟨A, c, rfl, OD, h3⟩
  rw [HDl.out]
  replace BQ := BQ.past h3
  replace BM := BM.past h3
  replace Hb := Lib.hid (thenB Hb.out h3)
  have z3 : W.heap.size ≤ w3.heap.size := h3.size
  clear h3
  have q0 := BQ.cell 0
  have q1 := BQ.cell 1
  simp at q0 q1
  go_wp2_with fail
  refine (HQ.out _).mono ?_
  rintro e w4 ⟨rfl, h4⟩
  replace BQ := BQ.past h4
  replace BM := BM.past h4
  replace OD := own_past OD h4
  replace Hb := Lib.hid (thenB Hb.out h4)
  have z4 : w3.heap.size ≤ w4.heap.size := h4.size
  clear h4 q0 q1
  have hj : 0 < D.length := by rw [HDl.out]; omega
  obtain ⟨g, rfl, hg, hgl⟩ := own_head OD hj
  have hcap := (own_cap OD).1
  rw [HDl.out] at hcap
  have bx := (Below.refl w4.heap.size w4).drew
  replace BQ := BQ.past bx
  replace BM := BM.past bx
  replace OD := own_past OD bx
  replace Hb := Lib.hid (thenB Hb.out bx)
  have RD' : Rd w4.drew w4.drew.heap.size (some ⟨g, 1, none⟩) (D.drop 1) := by simpa using rd_drop' (own_rd OD) 1
  have RD := Lib.hid RD'
  have hcl := fun W h => l1Copy_any (some ⟨g, 1, none⟩) (c - 1) (D.drop 1) W h (by rw [HXl.out]; omega)
  rw [HXl.out] at hcl
  have Hcl := Lib.hid hcl
  have q0 := BQ.cell 0
  have q1 := BQ.cell 1
  have m0 := BM.frozen 0
  have m1 := BM.frozen 1
  have m2 := BM.frozen 2
  simp at q0 q1
  have hk1 : (1 : Int) ≤ (k : Int) + 1 := by omega
  have hcn : ¬ (c = 1) := by omega
  clear bx RD' hcl hj
  go_wp2_with fail
  go_region_law
    (first
      | (go_simp; go_at_call 59; refine (Hcl.out _ RD.out).mono ?_; rintro e w5 ⟨A5, c5, rfl, O5, h5⟩; have BQ5 := BQ.past h5; have BM5 := BM.past h5; have Hb5 := Lib.hid (thenB Hb.out h5); have z5 : w4.heap.size ≤ w5.heap.size := h5.size; have r0 := BQ5.cell 0; have r1 := BQ5.cell 1; have n0 := BM5.frozen 0; have n1 := BM5.frozen 1; have n2 := BM5.frozen 2; have p0 := BM5.cell 0; have p1 := BM5.cell 1; have p2 := BM5.cell 2; simp at r0 r1 p0 p1 p2; have HXl' := HXl.out; rw [HXl']))
  all_goals
    have D0 := ((BM5.set_ 0 (.int .i64 l)).set_ 1 (.int .i64 s)).set_ 2 (.slice A5 k c5)
    have d0 := D0.cell 0
    have d1 := D0.cell 1
    have d2 := D0.cell 2
    simp at d0 d1 d2
    have T1 := turn_set (turn_refl w5 (w.heap.size + 1)) (p := ⟨w.heap.size + 1, 0, none⟩) rfl (.int .i64 l)
    have T2 := turn_set T1 (p := ⟨w.heap.size + 1, 1, none⟩) rfl (.int .i64 s)
    have T3 := turn_set T2 (p := ⟨w.heap.size + 1, 2, none⟩) rfl (.slice A5 k c5)
    have OF := own_grown O5 T3 (fun a e e' => by have h1 := own_lo O5 a e; have h2 := Option.some.inj e'; simp at h1; omega)
    have Hb6 := Lib.hid (((Hb5.out.setCell (p := ⟨w.heap.size + 1, 0, none⟩) (by simp) (.int .i64 l)).setCell (p := ⟨w.heap.size + 1, 1, none⟩) (by simp) (.int .i64 s)).setCell (p := ⟨w.heap.size + 1, 2, none⟩) (by simp) (.slice A5 k c5))
    have OF' := Lib.hid (own_mono OF (show w.heap.size ≤ w4.drew.heap.size by simp; omega))
    clear q0 q1 m0 m1 m2 r0 r1 n0 n1 n2 p0 p1 p2 T1 T2 T3 OF
    go_wp2
    refine bodyPost_ret (specOrder_res (b := .bool true) rfl rfl d0 d1 d2) rfl ?_
    exact ⟨A5, c5, rfl, OF'.out, Hb6.out⟩
end Go.Proofs.YtgkijkenbjjnmaaGreatDoor
