/- Contracts of the laws' own helpers on slices of strings: markText, eqStringS, markStringS, heldStringS. -/
import Derived.Test.YtgkijkenbjjnmaaGreatDoorBRun
namespace Go.Proofs.YtgkijkenbjjnmaaGreatDoor
open Go.RowKit
set_option linter.unusedVariables false
set_option linter.unusedSimpArgs false
def markT (k : Int) : List UInt8 := 109 :: decI k
def marksT (k : Int) (n : Nat) : List ByteArray := (List.range n).map fun (j : Nat) => bs (markT (k + j))
theorem marksT_length (k : Int) (n : Nat) : (marksT k n).length = n := by simp [marksT]
theorem marksT_get {k : Int} {n j : Nat} (h : j < n) : (marksT k n)[j]? = some (bs (markT (k + j))) := by
  simp [marksT, h]
set_option maxRecDepth 100000 in
set_option maxHeartbeats 1000000 in
theorem markText_any (x : Int) (w : World) (h0 : 1 ≤ x) (h1 : x ≤ 4611686018427387904) : Calls Tryz.prog 70 #[.int .i64 x] w fun e w' => e = .returned (.string (bs (markT x))) ∧ Below w.heap.size w w' := by
  have HL : Hid ((decI x).length ≤ 20) := decI_le (by omega) h1
  have HX : Hid (ahead x = decI x) := by show _ = _; unfold ahead; rw [if_pos (by omega)]
  have HR : Hid (bs [109] ++ bs (decI x) = bs (markT x)) := by show _ = _; rw [bs_app]; rfl
  have hx0 : ¬ (x ≤ 0) := by omega
  obtain ⟨L, hL⟩ : ∃ L, L = decI x := ⟨_, rfl⟩
  rw [← hL] at HL HX HR
  clear hL
  go_enter Tryz.func70, Tryz.ntmps70
  go_wp2_with fail
  go_loopw [0, 3] (fun i o wr => ∃ (q : Int) (t : List UInt8), i = .int .i64 q ∧ o = .string (bs t) ∧ 0 ≤ q ∧ q ≤ 4611686018427387904 ∧ Hid (ahead q ++ t = L) ∧ Hid (Below w.heap.size w wr)) (fun i _ _ => (intOf i).toNat)
  case atStart => exact ⟨x, [], rfl, rfl, by omega, h1, by show _ = _; rw [List.append_nil]; exact HX.out, Below.refl _ _⟩
  case round =>
    clear HX
    obtain ⟨y, u, rfl, rfl, y0, y1, HG, HW⟩ := hrel
    by_cases hy : 0 < y
    · have hr : 0 ≤ y % 10 ∧ y % 10 < 10 := by omega
      have td : y.tdiv 10 = y / 10 := Int.tdiv_eq_ediv_of_nonneg y0
      have tm : y.tmod 10 = y % 10 := Int.tmod_eq_emod_of_nonneg y0
      have HS : Hid (ahead (y / 10) ++ [UInt8.ofNat (48 + y % 10).toNat] = ahead y) := ahead_step hy
      have hcv := conv_byte wr (48 + y % 10) (by omega) (by omega)
      have w8 := wrap8 (x := 48 + y % 10) (by omega) (by omega)
      have hul : (bs u).size ≤ 100 := by rw [bs_size]; have h1 := HL.out; rw [← HG.out, List.length_append] at h1; omega
      have htl : (bs [UInt8.ofNat (48 + y % 10).toNat]).size = 1 := by rw [bs_size]; rfl
      have q1 : 0 ≤ y / 10 ∧ y / 10 ≤ 4611686018427387904 ∧ y / 10 < y := by omega
      have hbx : Below w.heap.size w (wr.alloc (.cells #[.int .u8 (48 + y % 10)] 5)) := HW.out.alloc HW.out.size _
      obtain ⟨t2, ht⟩ : ∃ t, t = [UInt8.ofNat (48 + y % 10).toNat] := ⟨_, rfl⟩
      rw [← ht] at HS hcv htl
      obtain ⟨q2, hq⟩ : ∃ q, q = y / 10 := ⟨_, rfl⟩
      obtain ⟨r2, hrr⟩ : ∃ q, q = y % 10 := ⟨_, rfl⟩
      rw [← hq] at td HS q1
      rw [← hrr] at hr tm hcv w8 hbx
      have HB := Lib.hid hbx
      clear ht hq hrr hbx
      go_wp2
      go_roundw
      case rel => exact ⟨q2, t2 ++ u, by go_num, congrArg Value.string (bs_app _ _), q1.1, q1.2.1, by show _ = _; rw [← List.append_assoc, HS.out]; exact HG.out, HB.out⟩
      case measure => simp [intOf]; omega
    · obtain rfl : y = 0 := by omega
      have HE : Hid (u = L) := by have h := HG.out; unfold ahead at h; rw [if_neg (by omega)] at h; exact h
      have hul : (bs u).size ≤ 100 := by rw [bs_size]; have h1 := HL.out; rw [← HE.out] at h1; omega
      go_wp2
      go_ret
      exact ⟨by rw [← HR.out, ← HE.out]; rfl, HW.out⟩
theorem ownS_cell2 {w : World} {B c g : Nat} {xs : List ByteArray} (h : OwnS w B (some ⟨g, 0, none⟩) c xs) {j : Nat} (hj : j < xs.length) : w.cell? ⟨g, j, none⟩ = some (.string xs[j]) :=
  (World.ownsRow.cellAt h j (by rw [Nat.mul_one]; exact hj)).trans (by rw [List.getElem?_map, List.getElem?_eq_getElem hj]; rfl)
theorem ownS_frozen {w : World} {B c g : Nat} {xs : List ByteArray} (h : OwnS w B (some ⟨g, 0, none⟩) c xs) (j : Nat) : w.frozen? ⟨g, j, none⟩ = false := World.ownsRow.frozenAt h j
theorem ownS_set {w : World} {B c g : Nat} {xs : List ByteArray} (h : OwnS w B (some ⟨g, 0, none⟩) c xs) (j : Nat) (v : ByteArray) : OwnS (w.setCell ⟨g, j, none⟩ (.string v)) B (some ⟨g, 0, none⟩) c (xs.set j v) := by
  have := (World.ownsRow.stored h j (.string v)).1
  have e : (xs.map Value.string).set j (.string v) = (xs.set j v).map Value.string := by rw [List.map_set]
  rw [e] at this
  unfold OwnS
  rw [List.length_set]
  exact this
set_option maxHeartbeats 1000000 in
theorem eqStringS_same (A A' : Option Addr) (B B' c c' n : Nat) (xs : List ByteArray) (w : World) (hx : OwnS w B A c xs) (hy : OwnS w B' A' c' xs) (hl : xs.length = n) (hn : n ≤ 1048576) :
    Calls Tryz.prog 27 #[.slice A n c, .slice A' n c'] w fun e w' => e = .returned (.bool true) ∧ Below w.heap.size w w' := by
  have HX := Lib.hid hx
  have HY := Lib.hid hy
  have HL := Lib.hid hl
  have hd : (((n : Nat) : Int) != ((n : Nat) : Int)) = false := by simp
  clear hx hy hl
  go_enter Tryz.func27, Tryz.ntmps27
  go_wp2_with fail
  go_loopw [5] (fun i wr => ∃ k : Nat, k ≤ n ∧ i = .int .i64 k ∧ Hid (Below w.heap.size w wr)) (fun i _ => n - (intOf i).toNat)
  case atStart => exact ⟨0, by omega, rfl, Below.refl _ _⟩
  case round =>
    obtain ⟨k, hk, rfl, Hb⟩ := hrel
    by_cases hlt : k < n
    · have hkx : k < xs.length := by rw [HL.out]; exact hlt
      have X1 := ownS_past HX.out Hb.out
      have Y1 := ownS_past HY.out Hb.out
      obtain ⟨g, rfl, _, _⟩ := ownS_head X1 (by omega)
      obtain ⟨g', rfl, _, _⟩ := ownS_head Y1 (by omega)
      have k1 := ownS_cell2 X1 hkx
      have k2 := ownS_cell2 Y1 hkx
      obtain ⟨v, hv⟩ : ∃ v, v = xs[k] := ⟨_, rfl⟩
      rw [← hv] at k1 k2
      have t0 : (v.toList != v.toList) = false := by simp
      clear X1 Y1 hv
      go_wp2_with fail
      go_quiet (fail)
      go_wp2
      go_roundw
      case rel => exact ⟨k + 1, by omega, by go_num, below_drewN' Hb.out _⟩
      case measure => simp [intOf]; omega
    · go_wp2
      go_ret
      exact ⟨rfl, Hb.out⟩
def RetMarkS (w : World) (A : Option Addr) (c n : Nat) (k : Int) (e : Ending) (w' : World) : Prop :=
  e = .returned (.int .i64 (k + n)) ∧ OwnS w' 0 A c (marksT k n) ∧ Wrote w w' A
theorem set_marksT {ys : List ByteArray} {n j : Nat} {k : Int} (hl : ys.length = n) (hj : j < n) (h : ys.take j = (marksT k n).take j) : (ys.set j (bs (markT (k + j)))).take (j + 1) = (marksT k n).take (j + 1) := by
  have hm := marksT_length k n
  have e := marksT_get (k := k) hj
  have e' : (marksT k n)[j]'(by omega) = bs (markT (k + j)) := by
    rw [List.getElem?_eq_getElem (by omega)] at e
    exact Option.some.inj e
  rw [← e']
  exact take_set' _ _ _ (by omega) h (by omega)
theorem wrote_below' {w wr w' : World} {A : Option Addr} (h : Wrote w wr A) (hb : Below wr.heap.size wr w') : Wrote w w' A :=
  ⟨hb.os.trans h.os, hb.tape.trans h.tape, hb.output.trans h.output, Nat.le_trans h.size hb.size, fun k hk hne => (hb.block k (Nat.lt_of_lt_of_le hk h.size)).trans (h.block k hk hne)⟩
set_option maxHeartbeats 1000000 in
theorem markStringS_any (A : Option Addr) (B c n : Nat) (xs : List ByteArray) (k : Int) (w : World) (hx : OwnS w B A c xs) (hl : xs.length = n) (hn : n ≤ 1048576) (k1 : 1 ≤ k) (k2 : k ≤ 4398046511104) :
    Calls Tryz.prog 28 #[.slice A n c, .int .i64 k] w (RetMarkS w A c n k) := by
  subst hl
  have HX := Lib.hid hx
  go_enter Tryz.func28, Tryz.ntmps28
  go_wp2_with fail
  go_loopw [1, 5] (fun q i wr => ∃ (j : Nat) (ys : List ByteArray), j ≤ xs.length ∧ i = .int .i64 j ∧ q = .int .i64 (k + j) ∧ Hid (ys.length = xs.length) ∧ Hid (ys.take j = (marksT k xs.length).take j) ∧ Hid (OwnS wr 0 A c ys) ∧ Hid (Wrote w wr A)) (fun _ i _ => xs.length - (intOf i).toNat)
  case atStart => exact ⟨0, xs, by omega, rfl, by simp, rfl, Lib.hid (by simp), ownS_mono hx (by omega), World.grownBy.refl _ _⟩
  case round =>
    obtain ⟨j, ys, hj, rfl, rfl, hl, hy, hown, hw⟩ := hrel
    by_cases hlt : j < xs.length
    · obtain ⟨g, rfl, _, _⟩ := ownS_head HX.out (by omega)
      have hlt' : j < ys.length := by have := hl.out; omega
      clear hx HX
      go_wp2_with fail
      refine (markText_any (k + j) _ (by omega) (by omega)).mono ?_; rintro e w1 ⟨rfl, h⟩
      have O1 := ownS_past hown.out h
      have hc2 := ownS_cell2 O1 hlt'
      have hf2 := ownS_frozen O1 j
      have HO1 := Lib.hid O1
      have HW1 := Lib.hid (wrote_below' hw.out h)
      clear O1 h hown hw
      go_wp2
      go_roundw
      case rel => exact ⟨j + 1, ys.set j (bs (markT (k + j))), by omega, by go_num, by go_num, by have := hl.out; simp [Hid, this], set_marksT hl.out hlt hy.out, ownS_set HO1.out j _, wrote_set HW1.out rfl _⟩
      case measure => simp [intOf]; omega
    · obtain rfl : j = xs.length := by omega
      go_wp2
      go_ret
      have e : ys = marksT k xs.length := by
        have := hy.out
        rwa [List.take_of_length_le (by have := hl.out; omega), List.take_of_length_le (by rw [marksT_length]; exact Nat.le_refl _)] at this
      refine ⟨rfl, ?_, hw.out⟩
      rw [← e]
      exact hown.out
set_option maxHeartbeats 1000000 in
theorem heldStringS_any (A : Option Addr) (B c n : Nat) (k : Int) (w : World) (hx : OwnS w B A c (marksT k n)) (hn : n ≤ 1048576) (k1 : 1 ≤ k) (k2 : k ≤ 4398046511104) :
    Calls Tryz.prog 29 #[.slice A n c, .int .i64 k] w fun e w' => e = .returned (.int .i64 (k + n)) ∧ Below w.heap.size w w' := by
  have HX := Lib.hid hx
  clear hx
  go_enter Tryz.func29, Tryz.ntmps29
  go_wp2_with fail
  go_loopw [1, 5] (fun q i wr => ∃ j : Nat, j ≤ n ∧ i = .int .i64 j ∧ q = .int .i64 (k + j) ∧ Hid (Below w.heap.size w wr)) (fun _ i _ => n - (intOf i).toNat)
  case atStart => exact ⟨0, by omega, rfl, by simp, Below.refl _ _⟩
  case round =>
    obtain ⟨j, hj, rfl, rfl, Hb⟩ := hrel
    by_cases hlt : j < n
    · have hjx : j < (marksT k n).length := by rw [marksT_length]; exact hlt
      have bx := (Below.refl wr.heap.size wr).drew
      have X1 := ownS_past (ownS_past HX.out Hb.out) bx
      obtain ⟨g, rfl, hg, _⟩ := ownS_head X1 (by omega)
      have k1' := ownS_cell2 X1 hjx
      have e1 : (marksT k n)[j] = bs (markT (k + j)) := by
        have := marksT_get (k := k) hlt
        rw [List.getElem?_eq_getElem hjx] at this
        exact Option.some.inj this
      rw [e1] at k1'
      have HB1 := Lib.hid (thenB Hb.out bx)
      have t0 : ((bs (markT (k + j))).toList != (bs (markT (k + j))).toList) = false := by simp
      clear X1 bx e1
      go_wp2_with fail
      go_region_held3 (fun w' => w'.cell? ⟨g, j, none⟩ = some (.string (bs (markT (k + j))))) (first | go_keep)
        (first | (go_at_call 70; refine (markText_any (k + j) _ (by omega) (by omega)).mono ?_; rintro e w1 ⟨rfl, h⟩; have k2' := (h.cell (p := ⟨g, j, none⟩) hg).trans k1'; have HB2 := Lib.hid (thenB HB1.out h)))
      go_wp2
      go_roundw
      case rel => exact ⟨j + 1, by omega, by go_num, by go_num, HB2.out⟩
      case measure => simp [intOf]; omega
    · obtain rfl : j = n := by omega
      go_wp2
      go_ret
      exact ⟨rfl, Hb.out⟩
end Go.Proofs.YtgkijkenbjjnmaaGreatDoor
