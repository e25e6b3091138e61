/- Decimal digits: the program's decimal and the reference's l7Number. -/
import Derived.Test.YtgkijkenbjjnmaaGreatDoorBase
import Derived.Laws.Runes
import Derived.Laws.Concat
import Derived.Laws.IdiomStrings
namespace Go.Proofs.YtgkijkenbjjnmaaGreatDoor
open Go.RowKit
set_option linter.unusedVariables false
set_option linter.unusedSimpArgs false
def bs (l : List UInt8) : ByteArray := ⟨l.toArray⟩
theorem bs_app (a b : List UInt8) : bs a ++ bs b = bs (a ++ b) := by
  apply ByteArray.ext
  simp [bs, ByteArray.data_append]
theorem bs_size (a : List UInt8) : (bs a).size = a.length := by simp [bs, ByteArray.size]
def dig (d : Nat) : UInt8 := UInt8.ofNat (48 + d)
def decL (n : Nat) : List UInt8 := if n < 10 then [dig n] else decL (n / 10) ++ [dig (n % 10)]
theorem decL_small {n : Nat} (h : n < 10) : decL n = [dig n] := by rw [decL, if_pos h]
theorem decL_big {n : Nat} (h : 10 ≤ n) : decL n = decL (n / 10) ++ [dig (n % 10)] := by rw [decL, if_neg (by omega)]
theorem decL_len : ∀ (k n : Nat), n < 10 ^ (k + 1) → (decL n).length ≤ k + 1
  | 0, n, h => by rw [decL_small (by simpa using h)]; simp
  | k + 1, n, h => by
    by_cases h1 : n < 10
    · rw [decL_small h1]; simp
    · have h2 : n / 10 < 10 ^ (k + 1) := by
        rw [Nat.div_lt_iff_lt_mul (by omega)]
        rw [Nat.pow_succ] at h
        exact h
      have := decL_len k (n / 10) h2
      rw [decL_big (by omega), List.length_append]
      simp; omega
theorem decL_le {n : Nat} (h : n ≤ 4611686018427387904) : (decL n).length ≤ 19 := decL_len 18 n (by omega)
def decI (n : Int) : List UInt8 := if n < 0 then 45 :: decL n.natAbs else decL n.natAbs
theorem decI_pos (n : Nat) : decI n = decL n := by unfold decI; rw [if_neg (by omega)]; rfl
theorem decI_neg (n : Nat) (h : 1 ≤ n) : decI (-(n : Int)) = 45 :: decL n := by unfold decI; rw [if_pos (by omega), Int.natAbs_neg]; rfl
theorem decI_le {n : Int} (h1 : -4611686018427387904 ≤ n) (h2 : n ≤ 4611686018427387904) : (decI n).length ≤ 20 := by
  have := decL_le (n := n.natAbs) (by omega)
  unfold decI
  split <;> simp <;> omega
theorem enc_dig {d : Nat} (h : d < 10) : Utf8.encode (48 + (d : Int)) = bs [dig d] := by
  have hd : d = 0 ∨ d = 1 ∨ d = 2 ∨ d = 3 ∨ d = 4 ∨ d = 5 ∨ d = 6 ∨ d = 7 ∨ d = 8 ∨ d = 9 := by omega
  rcases hd with rfl | rfl | rfl | rfl | rfl | rfl | rfl | rfl | rfl | rfl <;> rfl
theorem wrap32 {x : Int} (h1 : 0 ≤ x) (h2 : x ≤ 1000) : IntKind.i32.wrap x = x := by
  unfold IntKind.wrap
  simp [IntKind.bits, IntKind.signed]
  omega
set_option maxRecDepth 100000 in
set_option maxHeartbeats 1000000 in
theorem implDec_small (x : Int) (h0 : 0 ≤ x) (h : x < 10) (w : World) : Calls Tryz.prog 55 #[.int .i64 x] w fun e w' => e = .returned (.string (bs (decI x))) ∧ w = w' := by
  have HE : Hid (Utf8.encode (48 + x) = bs (decI x)) := by
    obtain ⟨n, rfl⟩ : ∃ n : Nat, x = n := ⟨x.toNat, by omega⟩
    show _ = _
    rw [decI_pos, decL_small (by omega), enc_dig (by omega)]
  go_enter Tryz.func55, Tryz.ntmps55
  go_wp2
  go_ret
  refine ⟨?_, rfl⟩
  rw [← HE.out]; rfl
set_option maxRecDepth 100000 in
set_option maxHeartbeats 1000000 in
theorem implDec_nat : ∀ (m : Nat) (x : Int), 0 ≤ x → x ≤ m → x ≤ 4611686018427387904 → ∀ w : World, Calls Tryz.prog 55 #[.int .i64 x] w fun e w' => e = .returned (.string (bs (decI x))) ∧ w = w' := by
  intro m
  induction m with
  | zero =>
    intro x h0 hn hb w
    exact implDec_small x h0 (by omega) w
  | succ m ih =>
    intro x h0 hn hb w
    by_cases h : x < 10
    · exact implDec_small x h0 h w
    · have hr : 0 ≤ x % 10 ∧ x % 10 < 10 := by omega
      have HC := Lib.hid (ih (x / 10) (by omega) (by omega) (by omega))
      have HE : Hid (bs (decI (x / 10)) ++ Utf8.encode (48 + x % 10) = bs (decI x)) := by
        obtain ⟨n, rfl⟩ : ∃ n : Nat, x = n := ⟨x.toNat, by omega⟩
        show _ = _
        have e1 : (n : Int) / 10 = ((n / 10 : Nat) : Int) := by omega
        have e2 : (n : Int) % 10 = ((n % 10 : Nat) : Int) := by omega
        rw [e1, e2, decI_pos, decI_pos, decL_big (show 10 ≤ n by omega), enc_dig (Nat.mod_lt _ (by omega)), bs_app]
      have hz : (bs (decI (x / 10))).size ≤ 100 := by rw [bs_size]; have := decI_le (n := x / 10) (by omega) (by omega); omega
      have hz2 : (Utf8.encode (48 + x % 10)).size = 1 := by
        obtain ⟨n, hn⟩ : ∃ n : Nat, x % 10 = n := ⟨(x % 10).toNat, by omega⟩
        rw [hn, enc_dig (by omega), bs_size]; rfl
      have td : x.tdiv 10 = x / 10 := Int.tdiv_eq_ediv_of_nonneg h0
      have tm : x.tmod 10 = x % 10 := Int.tmod_eq_emod_of_nonneg h0
      have qb : 0 ≤ x / 10 ∧ x / 10 ≤ 4611686018427387904 := by omega
      obtain ⟨q, hq⟩ : ∃ q, q = x / 10 := ⟨_, rfl⟩
      obtain ⟨r, hrr⟩ : ∃ q, q = x % 10 := ⟨_, rfl⟩
      rw [← hq] at HC HE td hz qb
      rw [← hrr] at HE tm hz2 hr
      obtain ⟨D, hD⟩ : ∃ D, D = bs (decI q) := ⟨_, rfl⟩
      rw [← hD] at HC HE hz
      have sq : IntKind.i64.wrap q = q := Go.IntWalk.i64_in _ (by omega)
      have sr : IntKind.i64.wrap r = r := Go.IntWalk.i64_in _ (by omega)
      clear ih hq hrr hD
      go_enter Tryz.func55, Tryz.ntmps55
      go_wp2_with fail
      (with_reducible refine (HC.out _).mono ?_)
      rintro e w' ⟨rfl, rfl⟩
      go_wp2
      go_ret
      exact ⟨by rw [← HE.out]; rfl, rfl⟩
theorem decI_parts {x : Int} (h : x ≤ -10) : decI (-((-x) / 10)) ++ decI ((-x) % 10) = decI x := by
  obtain ⟨n, rfl⟩ : ∃ n : Nat, x = -(n : Int) := ⟨(-x).toNat, by omega⟩
  have e1 : (- -(n : Int)) / 10 = ((n / 10 : Nat) : Int) := by omega
  have e2 : (- -(n : Int)) % 10 = ((n % 10 : Nat) : Int) := by omega
  rw [e1, e2, decI_neg _ (by omega), decI_neg _ (by omega), decI_pos, decL_big (show 10 ≤ n by omega), decL_small (show n % 10 < 10 by omega)]
  rfl
theorem tdiv_neg10 {x : Int} (h : x ≤ 0) : x.tdiv 10 = -((-x) / 10) := by
  obtain ⟨y, rfl⟩ : ∃ y, x = -y := ⟨-x, by omega⟩
  rw [Int.neg_tdiv, Int.tdiv_eq_ediv_of_nonneg (by omega), Int.neg_neg]
theorem tmod_neg10 {x : Int} (h : x ≤ 0) : x.tmod 10 = -((-x) % 10) := by
  obtain ⟨y, rfl⟩ : ∃ y, x = -y := ⟨-x, by omega⟩
  rw [Int.neg_tmod, Int.tmod_eq_emod_of_nonneg (by omega), Int.neg_neg]
set_option maxRecDepth 100000 in
set_option maxHeartbeats 1000000 in
theorem implDec_neg : ∀ (m : Nat) (x : Int), x < 0 → -x ≤ m → -4611686018427387904 ≤ x → ∀ w : World, Calls Tryz.prog 55 #[.int .i64 x] w fun e w' => e = .returned (.string (bs (decI x))) ∧ w = w' := by
  intro m
  induction m with
  | zero =>
    intro x h0 hn hb w
    omega
  | succ m ih =>
    intro x h0 hn hb w
    by_cases h : -10 < x
    · have HC := Lib.hid (implDec_small (-x) (by omega) (by omega))
      have HE : Hid (bs [45] ++ bs (decI (-x)) = bs (decI x)) := by
        obtain ⟨n, rfl⟩ : ∃ n : Nat, x = -(n : Int) := ⟨(-x).toNat, by omega⟩
        show _ = _
        rw [bs_app, decI_neg _ (by omega), Int.neg_neg, decI_pos]; rfl
      have hz : (bs (decI (-x))).size ≤ 100 := by rw [bs_size]; have := decI_le (n := -x) (by omega) (by omega); omega
      obtain ⟨D, hD⟩ : ∃ D, D = bs (decI (-x)) := ⟨_, rfl⟩
      rw [← hD] at HC HE hz
      have sx : IntKind.i64.wrap (-x) = -x := Go.IntWalk.i64_in _ (by omega)
      have z1 : (ByteArray.mk #[45]).size = 1 := rfl
      clear ih hD
      go_enter Tryz.func55, Tryz.ntmps55
      go_wp2_with fail
      (with_reducible refine (HC.out _).mono ?_)
      rintro e w' ⟨rfl, rfl⟩
      go_wp2
      go_ret
      exact ⟨by rw [← HE.out]; rfl, rfl⟩
    · have hx : x ≤ -10 := by omega
      have H1 := Lib.hid (ih (-((-x) / 10)) (by omega) (by omega) (by omega))
      have H2 := Lib.hid (implDec_small ((-x) % 10) (by omega) (by omega))
      have HE : Hid (bs (decI (-((-x) / 10))) ++ bs (decI ((-x) % 10)) = bs (decI x)) := by show _ = _; rw [bs_app, decI_parts hx]
      have z1 : (bs (decI (-((-x) / 10)))).size ≤ 100 := by rw [bs_size]; have := decI_le (n := -((-x) / 10)) (by omega) (by omega); omega
      have z2 : (bs (decI ((-x) % 10))).size ≤ 100 := by rw [bs_size]; have := decI_le (n := (-x) % 10) (by omega) (by omega); omega
      have td := tdiv_neg10 (x := x) (by omega)
      have tm := tmod_neg10 (x := x) (by omega)
      obtain ⟨D, hD⟩ : ∃ D, D = bs (decI (-((-x) / 10))) := ⟨_, rfl⟩
      obtain ⟨F, hF⟩ : ∃ D, D = bs (decI ((-x) % 10)) := ⟨_, rfl⟩
      rw [← hD] at H1 HE z1
      rw [← hF] at H2 HE z2
      have qb : -4611686018427387904 ≤ -((-x) / 10) ∧ -((-x) / 10) ≤ 0 := by omega
      have rb : 0 ≤ (-x) % 10 ∧ (-x) % 10 < 10 := by omega
      obtain ⟨q, hq⟩ : ∃ q, q = -((-x) / 10) := ⟨_, rfl⟩
      obtain ⟨r, hr⟩ : ∃ q, q = (-x) % 10 := ⟨_, rfl⟩
      rw [← hq] at H1 td qb
      rw [← hr] at H2 tm rb
      have sq : IntKind.i64.wrap q = q := Go.IntWalk.i64_in _ (by omega)
      have sr : IntKind.i64.wrap (-r) = -r := Go.IntWalk.i64_in _ (by omega)
      have sr2 : IntKind.i64.wrap r = r := Go.IntWalk.i64_in _ (by omega)
      clear ih hD hF hq hr h
      go_enter Tryz.func55, Tryz.ntmps55
      go_wp2_with fail
      (with_reducible refine (H1.out _).mono ?_)
      rintro e w' ⟨rfl, rfl⟩
      go_wp2_with fail
      (with_reducible refine (H2.out _).mono ?_)
      rintro e w' ⟨rfl, rfl⟩
      go_wp2
      go_ret
      exact ⟨by rw [← HE.out]; rfl, rfl⟩
theorem implDec_any (x : Int) (w : World) (h1 : -4611686018427387904 ≤ x) (h2 : x ≤ 4611686018427387904) : Calls Tryz.prog 55 #[.int .i64 x] w fun e w' => e = .returned (.string (bs (decI x))) ∧ w = w' := by
  rcases Int.lt_or_le x 0 with h | h
  · exact implDec_neg (-x).toNat x h (by omega) h1 w
  · exact implDec_nat x.toNat x h (by omega) h2 w
theorem conv_byte (W : World) (v : Int) (h0 : 0 ≤ v) (h : v < 256) : (convert 22 9 (.slice (some ⟨W.heap.size, 0, none⟩) 1 1)).run Tryz.prog (W.alloc (.cells #[.int .u8 v] 5)) = .ok (.string (bs [UInt8.ofNat v.toNat])) (W.alloc (.cells #[.int .u8 v] 5)) := by
  have hu : ((UInt8.ofNat v.toNat).toNat : Int) = v := by
    rw [UInt8.toNat_ofNat_of_lt' (show v.toNat < 256 by omega)]; omega
  refine run_convert_bytes_back (W.alloc (.cells #[.int .u8 v] 5)) 22 9 5 ⟨W.heap.size, 0, none⟩ 1 [UInt8.ofNat v.toNat] Tryz.underlying22 Tryz.underlying5 Tryz.underlying9 ?_
  intro j hj
  obtain rfl : j = 0 := by simpa using hj
  show _ = some (Value.int .u8 ((UInt8.ofNat v.toNat).toNat : Int))
  rw [hu]
  exact (Blk.new W 5 #[.int .u8 v]).cell 0
theorem wrap8 {x : Int} (h1 : 0 ≤ x) (h2 : x < 256) : IntKind.u8.wrap x = x := by
  unfold IntKind.wrap
  simp [IntKind.bits, IntKind.signed]
  omega
/-- What is still to be put ahead. -/
def ahead (q : Int) : List UInt8 := if 0 < q then decI q else []
theorem ahead_step {q : Int} (h : 0 < q) : ahead (q / 10) ++ [UInt8.ofNat (48 + q % 10).toNat] = ahead q := by
  obtain ⟨n, rfl⟩ : ∃ n : Nat, q = n := ⟨q.toNat, by omega⟩
  have e1 : (n : Int) / 10 = ((n / 10 : Nat) : Int) := by omega
  have e2 : (48 + (n : Int) % 10).toNat = 48 + n % 10 := by omega
  unfold ahead
  rw [e2, e1, if_pos h, decI_pos, decI_pos]
  by_cases h1 : n < 10
  · rw [if_neg (by omega), decL_small h1, show n % 10 = n by omega]; rfl
  · rw [if_pos (by omega), decL_big (show 10 ≤ n by omega)]; rfl
theorem ahead_first {x : Int} (h : 0 ≤ x) : ahead (x / 10) ++ [UInt8.ofNat (48 + x % 10).toNat] = decI x := by
  by_cases h0 : x = 0
  · subst h0
    have e : decI 0 = [dig 0] := by rw [show (0 : Int) = ((0 : Nat) : Int) from rfl, decI_pos, decL_small (by omega)]
    rw [e]; simp [ahead]; rfl
  · rw [ahead_step (by omega)]; unfold ahead; rw [if_pos (by omega)]
set_option maxRecDepth 100000 in
set_option maxHeartbeats 1000000 in
theorem l7Number_nat (x : Int) (w : World) (h0 : 0 ≤ x) (h1 : x ≤ 4611686018427387904) : Calls Tryz.prog 63 #[.int .i64 x] w fun e w' => e = .returned (.string (bs (decI x))) ∧ Below w.heap.size w w' := by
  have hr : 0 ≤ x % 10 ∧ x % 10 < 10 := by omega
  have td : x.tdiv 10 = x / 10 := Int.tdiv_eq_ediv_of_nonneg h0
  have tm : x.tmod 10 = x % 10 := Int.tmod_eq_emod_of_nonneg h0
  have HF : Hid (ahead (x / 10) ++ [UInt8.ofNat (48 + x % 10).toNat] = decI x) := ahead_first h0
  have HL : Hid ((decI x).length ≤ 20) := decI_le (by omega) h1
  have hcv := conv_byte w (48 + x % 10) (by omega) (by omega)
  have w8 := wrap8 (x := 48 + x % 10) (by omega) (by omega)
  obtain ⟨L, hL⟩ : ∃ L, L = decI x := ⟨_, rfl⟩
  rw [← hL] at HF HL ⊢
  obtain ⟨t, ht⟩ : ∃ t, t = [UInt8.ofNat (48 + x % 10).toNat] := ⟨_, rfl⟩
  rw [← ht] at HF hcv
  have q1 : 0 ≤ x / 10 ∧ x / 10 ≤ 4611686018427387904 := by omega
  obtain ⟨q, hq⟩ : ∃ q, q = x / 10 := ⟨_, rfl⟩
  obtain ⟨r, hrr⟩ : ∃ q, q = x % 10 := ⟨_, rfl⟩
  rw [← hq] at td HF q1
  rw [← hrr] at hr tm hcv w8
  clear hL ht hq hrr
  have hb0 : Below w.heap.size w (w.alloc (.cells #[.int .u8 (48 + r)] 5)) := (Below.refl _ _).alloc (Nat.le_refl _) _
  have HB0 := Lib.hid hb0
  clear hb0
  go_enter Tryz.func63, Tryz.ntmps63
  go_wp2_with fail
  go_loopw [0, 3] (fun i o wr => ∃ (q : Int) (t : List UInt8), i = .int .i64 q ∧ o = .string (bs t) ∧ 0 ≤ q ∧ q ≤ 4611686018427387904 ∧ Hid (ahead q ++ t = L) ∧ Hid (Below w.heap.size w wr)) (fun i _ _ => (intOf i).toNat)
  case atStart => exact ⟨q, t, rfl, rfl, q1.1, q1.2, HF.out, HB0.out⟩
  case round =>
    clear HF HB0 hcv w8 td tm hr q1
    obtain ⟨y, u, rfl, rfl, y0, y1, HG, HW⟩ := hrel
    by_cases hy : 0 < y
    · have hr : 0 ≤ y % 10 ∧ y % 10 < 10 := by omega
      have td : y.tdiv 10 = y / 10 := Int.tdiv_eq_ediv_of_nonneg y0
      have tm : y.tmod 10 = y % 10 := Int.tmod_eq_emod_of_nonneg y0
      have HS : Hid (ahead (y / 10) ++ [UInt8.ofNat (48 + y % 10).toNat] = ahead y) := ahead_step hy
      have hcv := conv_byte wr (48 + y % 10) (by omega) (by omega)
      have w8 := wrap8 (x := 48 + y % 10) (by omega) (by omega)
      have hul : (bs u).size ≤ 100 := by rw [bs_size]; have h1 := HL.out; rw [← HG.out, List.length_append] at h1; omega
      have htl : (bs [UInt8.ofNat (48 + y % 10).toNat]).size = 1 := by rw [bs_size]; rfl
      have q1 : 0 ≤ y / 10 ∧ y / 10 ≤ 4611686018427387904 ∧ y / 10 < y := by omega
      have hbx : Below w.heap.size w (wr.alloc (.cells #[.int .u8 (48 + y % 10)] 5)) := HW.out.alloc HW.out.size _
      obtain ⟨t2, ht⟩ : ∃ t, t = [UInt8.ofNat (48 + y % 10).toNat] := ⟨_, rfl⟩
      rw [← ht] at HS hcv htl
      obtain ⟨q2, hq⟩ : ∃ q, q = y / 10 := ⟨_, rfl⟩
      obtain ⟨r2, hrr⟩ : ∃ q, q = y % 10 := ⟨_, rfl⟩
      rw [← hq] at td HS q1
      rw [← hrr] at hr tm hcv w8 hbx
      have HB := Lib.hid hbx
      clear ht hq hrr hbx
      go_wp2
      go_roundw
      case rel => exact ⟨q2, t2 ++ u, by go_num, congrArg Value.string (bs_app _ _), q1.1, q1.2.1, by show _ = _; rw [← List.append_assoc, HS.out]; exact HG.out, HB.out⟩
      case measure => simp [intOf]; omega
    · obtain rfl : y = 0 := by omega
      have HE : Hid (u = L) := by have h := HG.out; unfold ahead at h; rw [if_neg (by omega)] at h; exact h
      go_wp2
      go_ret
      exact ⟨by rw [← HE.out]; rfl, HW.out⟩
set_option maxRecDepth 100000 in
set_option maxHeartbeats 1000000 in
theorem l7Number_any (x : Int) (w : World) (h1 : -4611686018427387904 ≤ x) (h2 : x ≤ 4611686018427387904) : Calls Tryz.prog 63 #[.int .i64 x] w fun e w' => e = .returned (.string (bs (decI x))) ∧ Below w.heap.size w w' := by
  rcases Int.lt_or_le x 0 with h | h
  · have HC := Lib.hid (l7Number_nat (-x) · (by omega) (by omega))
    have HE : Hid (bs [45] ++ bs (decI (-x)) = bs (decI x)) := by
      obtain ⟨n, rfl⟩ : ∃ n : Nat, x = -(n : Int) := ⟨(-x).toNat, by omega⟩
      show _ = _
      rw [bs_app, decI_neg _ (by omega), Int.neg_neg, decI_pos]; rfl
    have hz : (bs (decI (-x))).size ≤ 100 := by rw [bs_size]; have := decI_le (n := -x) (by omega) (by omega); omega
    obtain ⟨D, hD⟩ : ∃ D, D = bs (decI (-x)) := ⟨_, rfl⟩
    rw [← hD] at HC HE hz
    have sx : IntKind.i64.wrap (-x) = -x := Go.IntWalk.i64_in _ (by omega)
    have z1 : (ByteArray.mk #[45]).size = 1 := rfl
    clear hD
    go_enter Tryz.func63, Tryz.ntmps63
    go_wp2_with fail
    (with_reducible refine (HC.out _).mono ?_)
    rintro e w1 ⟨rfl, h⟩
    have HB := Lib.hid h
    go_wp2
    go_ret
    exact ⟨by rw [← HE.out]; rfl, HB.out⟩
  · exact l7Number_nat x w h h2
end Go.Proofs.YtgkijkenbjjnmaaGreatDoor
