/- NaNs: what asks the tape, and what the tests say of them. -/
import Derived.Test.YthdkdcaekfcmoaaFSl
import Derived.Deep.RegionWith
namespace Go.Proofs.Ythdkdcaekfcmoaa
open Go.RowKit
set_option linter.unusedVariables false
set_option linter.unusedSimpArgs false
def isNan (u : Nat) : Prop := ∃ sg q, Ieee.double.read u = .nan sg q
theorem nan_cut (x : Nat) : isNan ((x % 2) * 2 ^ 63 + 0x7ff0000000000000 + 1 + (x / 2) % (2 ^ 52 - 1)) := by
  have hr : (x / 2) % (2 ^ 52 - 1) < 2 ^ 52 - 1 := Nat.mod_lt _ (by decide)
  have h2 : x % 2 < 2 := Nat.mod_lt _ (by decide)
  obtain ⟨r, hr'⟩ : ∃ r, r = (x / 2) % (2 ^ 52 - 1) := ⟨_, rfl⟩
  obtain ⟨k, hk⟩ : ∃ k, k = x % 2 := ⟨_, rfl⟩
  rw [← hr'] at hr ⊢
  rw [← hk] at h2 ⊢
  have e1 : Ieee.double.signWeight = 9223372036854775808 := by decide
  have e2 : Ieee.double.infRung = 9218868437227405312 := by decide
  have e3 : Ieee.double.binade = 4503599627370496 := by decide
  have hm : (k * 2 ^ 63 + 0x7ff0000000000000 + 1 + r) % 9223372036854775808 = 0x7ff0000000000000 + 1 + r := by omega
  unfold isNan Ieee.Format.read
  dsimp only
  rw [e1, e2, e3, hm]
  rw [if_neg (by omega), if_neg (by omega), if_neg (by omega)]
  exact ⟨_, _, rfl⟩
theorem ord_nan {u : Nat} (h : isNan u) (v : Nat) : FloatKind.f64.format.order u v = none := by
  obtain ⟨sg, q, h⟩ := h
  show Ieee.double.order u v = none
  unfold Ieee.Format.order
  rw [h]; rfl
theorem ord_self {u : Nat} (h : ¬ isNan u) : FloatKind.f64.format.order u u = some .eq := by
  show Ieee.double.order u u = some .eq
  unfold Ieee.Format.order
  rcases hr : Ieee.double.read u with ⟨s, m, e⟩ | ⟨s⟩ | ⟨s, q⟩
  · show some (compare _ _) = _
    simp
  · show some (compare _ _) = _
    simp
  · exact absurd ⟨s, q, hr⟩ h
theorem quo_one {u : Nat} (h : ¬ isNan u) : ∃ r, floatBits .quo .f64 4607182418800017408 u = some r := by
  have h1 : Ieee.double.read 4607182418800017408 = .number false 4503599627370496 (-52) := by decide
  show ∃ r, Ieee.double.div _ _ = some r
  unfold Ieee.Format.div
  rw [h1]
  rcases hr : Ieee.double.read u with ⟨s, m, e⟩ | ⟨s⟩ | ⟨s, q⟩
  · unfold Ieee.Datum.quotient
    dsimp only
    by_cases hm : m = 0
    · rw [if_pos hm, if_neg (by decide)]; exact ⟨_, rfl⟩
    · rw [if_neg hm]; exact ⟨_, rfl⟩
  · exact ⟨_, rfl⟩
  · exact absurd ⟨s, q, hr⟩ h
def nanC (b : Nat) (w : World) : Nat := (Question.nanConv .f64 b).cut (w.tape w.drawn (Question.nanConv .f64 b))
theorem nanC_nan (b : Nat) (w : World) : isNan (nanC b w) := nan_cut _
theorem conv_nan' {b : Nat} {sg : Bool} {q : Nat} (h : Ieee.single.read b = .nan sg q) (src dst : TypeId) (hs : (Try.prog.underlying src).isSome = true) (hd : Try.prog.underlying dst = some (.float .f64)) (w : World) :
    (convert src dst (.float .f32 b)).run Try.prog w = .ok (.float .f64 (nanC b w)) w.drew := by
  obtain ⟨u, hs'⟩ := Option.isSome_iff_exists.1 hs
  have r1 : FloatKind.f32.decode b = .nan sg q := h
  cases u <;> simp [convert, run_underlying hs', run_underlying hd, Conv.floatToFloat, r1, Question.forced, nanC]
theorem conv_nan {b : Nat} {sg : Bool} {q : Nat} (h : Ieee.single.read b = .nan sg q) (src dst : TypeId) (hs : (Try.prog.underlying src).isSome = true) (hd : Try.prog.underlying dst = some (.float .f64)) (w : World) :
    ∃ t, (convert src dst (.float .f32 b)).run Try.prog w = .ok (.float .f64 t) w.drew ∧ isNan t := by
  obtain ⟨u, hs'⟩ := Option.isSome_iff_exists.1 hs
  have r1 : FloatKind.f32.decode b = .nan sg q := h
  refine ⟨(Question.nanConv .f64 b).cut (w.tape w.drawn (Question.nanConv .f64 b)), ?_, nan_cut _⟩
  cases u <;> simp [convert, run_underlying hs', run_underlying hd, Conv.floatToFloat, r1, Question.forced]
theorem mul_nan {t : Nat} (h : isNan t) (ty : TypeId) (v : Nat) (w : World) : ∃ u, (binOp .mul ty (.float .f64 t) (.float .f64 v)).run Try.prog w = .ok (.float .f64 u) w.drew ∧ isNan u := by
  obtain ⟨sg, q, h⟩ := h
  have e : FloatKind.f64.format.mul t v = none := by show Ieee.double.mul t v = none; unfold Ieee.Format.mul; rw [h]; rfl
  refine ⟨(Question.nanBits .f64 t v).cut (w.tape w.drawn (Question.nanBits .f64 t v)), ?_, nan_cut _⟩
  simp [binOp, Op.floatArith, e, Question.forced]
theorem add_nan {t : Nat} (h : isNan t) (ty : TypeId) (v : Nat) (w : World) : ∃ u, (binOp .add ty (.float .f64 t) (.float .f64 v)).run Try.prog w = .ok (.float .f64 u) w.drew ∧ isNan u := by
  obtain ⟨sg, q, h⟩ := h
  have e : FloatKind.f64.format.add t v = none := by show Ieee.double.add t v = none; unfold Ieee.Format.add; rw [h]; rfl
  refine ⟨(Question.nanBits .f64 t v).cut (w.tape w.drawn (Question.nanBits .f64 t v)), ?_, nan_cut _⟩
  simp [binOp, Op.floatArith, e, Question.forced]
/-- A single in double precision, if it is a number. -/
theorem up_all (b : Nat) : (∃ sg q, Ieee.single.read b = .nan sg q) ∨ ∃ u, floatToFloatBits .f32 b .f64 = some u ∧ ¬ isNan u := by
  rcases h : Ieee.single.read b with ⟨s, m, e⟩ | ⟨s⟩ | ⟨s, q⟩
  · right
    obtain ⟨u, h1, ⟨s', m', e', h2, _⟩, _⟩ := Flo.up_num h
    exact ⟨u, h1, fun ⟨sg, q, h3⟩ => by rw [h2] at h3; cases h3⟩
  · right
    have r1 : FloatKind.f32.decode b = .infinity s := h
    refine ⟨Ieee.double.word s Ieee.double.infRung, ?_, fun ⟨sg, q, h3⟩ => by rw [Flo.inf_read] at h3; cases h3⟩
    unfold floatToFloatBits
    rw [if_neg (by decide), r1]; rfl
  · exact .inl ⟨s, q, rfl⟩
set_option maxHeartbeats 1000000 in
theorem sameFloat_same (u : Nat) (h : ¬ isNan u) (w : World) :
    Calls Try.prog 27 #[.float .f64 u, .float .f64 u] w fun e w' => e = .returned (.bool true) ∧ w = w' := by
  have o1 : (FloatKind.f64.format.order u u != some .eq) = false := by rw [ord_self h]; rfl
  have o2 : (FloatKind.f64.format.order u u == some .eq) = true := by rw [ord_self h]; rfl
  obtain ⟨r, hr⟩ := quo_one h
  have q1 := run_float_arith (P := Try.prog) w .quo 45 .f64 _ _ _ hr
  rcases Bool.eq_false_or_eq_true (FloatKind.f64.format.order u 0 == some .eq) with hz | hz
  all_goals
    go_enter Try.func27, Try.ntmps27
    go_wp2
    go_ret
    exact ⟨ret_bool (by simp), rfl⟩
set_option maxHeartbeats 1000000 in
theorem sameFloat_nan (u v : Nat) (h : isNan u) (k : isNan v) (w : World) :
    Calls Try.prog 27 #[.float .f64 u, .float .f64 v] w fun e w' => e = .returned (.bool true) ∧ w = w' := by
  have o1 : (FloatKind.f64.format.order u u != some .eq) = true := by rw [ord_nan h]; rfl
  have o2 : (FloatKind.f64.format.order v v != some .eq) = true := by rw [ord_nan k]; rfl
  go_enter Try.func27, Try.ntmps27
  go_wp2
  go_ret
  exact ⟨rfl, rfl⟩
theorem below_drew2 {B : Nat} {a w : World} (h : Below B a w) : Below B a w.drew := h.drew
set_option maxHeartbeats 2000000 in
theorem eqFloat32S_same (A A' : Option Addr) (c c' : Nat) (xs : List Nat) (w : World) (hx : RdF w w.heap.size A xs) (hy : RdF w w.heap.size A' xs) (hn : xs.length ≤ 1099511627776) :
    Calls Try.prog 13 #[.slice A xs.length c, .slice A' xs.length c'] w fun e w' => e = .returned (.bool true) ∧ Below w.heap.size w w' := by
  have hd : (((xs.length : Nat) : Int) != ((xs.length : Nat) : Int)) = false := by simp
  have hU : (Try.prog.underlying 31).isSome = true := by rw [Try.underlying31]; rfl
  go_enter Try.func13, Try.ntmps13
  go_wp2
  go_loopw [5] (fun i wr => ∃ k : Nat, k ≤ xs.length ∧ i = .int .i64 k ∧ Hid (Below w.heap.size w wr)) (fun i _ => xs.length - (intOf i).toNat)
  case atStart => exact ⟨0, by omega, rfl, Below.refl _ _⟩
  case round =>
    obtain ⟨k, hk, rfl, Hb⟩ := hrel
    by_cases hlt : k < xs.length
    · obtain ⟨ad, rfl, hbl, hcell⟩ := hx.at_ hlt
      obtain ⟨ad', rfl, hbl', hcell'⟩ := hy.at_ hlt
      have k1 : ∀ W, Below w.heap.size w W → W.cell? (ad.add k) = some (.float .f32 xs[k]) := fun W hb => by rw [hb.cell (by rw [block_add]; exact hbl), hcell k hlt, getD_atF hlt]
      have k2 : ∀ W, Below w.heap.size w W → W.cell? (ad'.add k) = some (.float .f32 xs[k]) := fun W hb => by rw [hb.cell (by rw [block_add]; exact hbl'), hcell' k hlt, getD_atF hlt]
      obtain ⟨v, hv⟩ : ∃ v, v = xs[k] := ⟨_, rfl⟩
      rw [← hv] at k1 k2
      clear hcell hcell' hv hx hy
      rcases up_all v with ⟨sg, q, hnan⟩ | ⟨u, hu, hun⟩
      · have j1 := k1 wr Hb.out
        have j2 := k2 wr Hb.out
        have j1' := k1 wr.drew Hb.out.drew
        have j2' := k2 wr.drew Hb.out.drew
        have cv := fun W => conv_nan' hnan 31 45 hU Try.underlying45 W
        have HS := Lib.hid (fun W1 W2 W => sameFloat_nan (nanC v W1) (nanC v W2) (nanC_nan v W1) (nanC_nan v W2) W)
        have HB1 := Lib.hid (Hb.out.drew.drew.drew)
        clear k1 k2 hnan
        go_wp2_with fail
        go_region_with (first | (go_at_call 27; refine (HS.out _ _ _).mono ?_; rintro e w1 ⟨rfl, rfl⟩))
        all_goals
          go_wp2
          go_roundw
          case rel => exact ⟨k + 1, by omega, by go_num, HB1.out⟩
          case measure => simp [intOf]; omega
      · have j1 := k1 wr Hb.out
        have j2 := k2 wr Hb.out
        have j1' := k1 wr.drew Hb.out.drew
        have j2' := k2 wr.drew Hb.out.drew
        have cv := fun W => run_convert_float_float (P := Try.prog) W 31 45 .f32 .f64 _ _ hU Try.underlying45 hu
        have HS := Lib.hid (fun W => sameFloat_same u hun W)
        have HB1 := Lib.hid (Hb.out.drew)
        clear k1 k2 hu hun
        go_wp2_with fail
        go_quiet (first | (go_at_call 27; refine (HS.out _).mono ?_; rintro e w9 ⟨rfl, rfl⟩; exact ⟨rfl, _, rfl⟩))
        go_wp2
        go_roundw
        case rel => exact ⟨k + 1, by omega, by go_num, below_drewN' Hb.out _⟩
        case measure => simp [intOf]; omega
    · go_wp2
      go_ret
      exact ⟨rfl, Hb.out⟩
end Go.Proofs.Ythdkdcaekfcmoaa
