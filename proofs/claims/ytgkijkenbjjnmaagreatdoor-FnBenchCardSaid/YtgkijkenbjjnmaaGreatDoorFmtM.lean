/- Contracts of the reference's FormatSequence, and of both FormatModulator. -/
import Derived.Test.YtgkijkenbjjnmaaGreatDoorTxtS
import Derived.Test.YtgkijkenbjjnmaaGreatDoorPTxt
import Derived.Test.YtgkijkenbjjnmaaGreatDoorMod
import Derived.Test.YtgkijkenbjjnmaaGreatDoorBenIs
import Derived.Deep.RegionHeld3
namespace Go.Proofs.YtgkijkenbjjnmaaGreatDoor
open Go.RowKit
set_option linter.unusedVariables false
set_option linter.unusedSimpArgs false
set_option maxHeartbeats 1000000 in
theorem specFormat_any (A : Option Addr) (c : Nat) (xs : List Int) (w : World) (hr : Rd w w.heap.size A xs) (hn : xs.length ≤ 1048576) (hc : xs.length ≤ c) (hm : c ≤ 9223372036854775807) :
    Calls Tryz.prog 114 #[.slice A xs.length c] w fun e w' => e = .returned (.string (bs (fmtI xs))) ∧ Below w.heap.size w w' := by
  have hi := specIsSequence_any A c xs w hr (by omega)
  rcases Bool.eq_false_or_eq_true (seqOk xs) with hs | hs
  · have HT := Lib.hid (l7Text_any A c xs w hr hc hm hs)
    rw [hs] at hi
    have Hi := Lib.hid hi
    have HY : Hid (fmtI xs = fmtL xs) := by show _ = _; simp [fmtI, hs]
    clear hi hs hr
    go_enter Tryz.func114, Tryz.ntmps114
    go_wp2_with fail
    refine Hi.out.mono ?_; rintro e w' ⟨rfl, rfl⟩
    go_wp2_with fail
    refine HT.out.mono ?_; rintro e w' ⟨rfl, h⟩
    have H := Lib.hid h
    clear h
    go_wp2
    go_ret
    exact ⟨by rw [HY.out]; rfl, H.out⟩
  · rw [hs] at hi
    have Hi := Lib.hid hi
    have HY : Hid (fmtI xs = []) := by show _ = _; simp [fmtI, hs]
    clear hi hs hr
    go_enter Tryz.func114, Tryz.ntmps114
    go_wp2_with fail
    refine Hi.out.mono ?_; rintro e w' ⟨rfl, rfl⟩
    go_wp2
    go_ret
    exact ⟨by rw [HY.out]; rfl, Below.refl _ _⟩
/-- The text of a modulator; none if it is no valid one. -/
def fmtMI (l s : Int) (cs : List Int) : List UInt8 := if modOk l s cs then fmtM l s cs else []
theorem fmtMI_eq {l s : Int} {cs : List Int} (h : modOk l s cs = true) : ((((ByteArray.mk #[109, 111, 100, 32] ++ bs (decI l)) ++ ByteArray.mk #[32]) ++ bs (decI s)) ++ ByteArray.mk #[32]) ++ bs (fmtL cs) = bs (fmtMI l s cs) := by
  rw [show (ByteArray.mk #[109, 111, 100, 32]) = bs (modT ++ [32]) from rfl, show (ByteArray.mk #[32]) = bs [32] from rfl]
  simp only [bs_app]
  simp [fmtMI, h, fmtM, List.append_assoc]
theorem fmtL_le {cs : List Int} (h : seqOk cs = true) : (fmtL cs).length ≤ 30000 := by
  unfold fmtL
  split
  · simp
  · exact join_le h
set_option maxRecDepth 100000 in
set_option maxHeartbeats 1000000 in
theorem implFormatM_any (l s : Int) (A : Option Addr) (c : Nat) (cs : List Int) (w : World) (hr : Rd w w.heap.size A cs) (hn : cs.length ≤ 1048576) :
    Calls Tryz.prog 13 #[.agg #[.int .i64 l, .int .i64 s, .slice A cs.length c]] w fun e w' => e = .returned (.string (bs (fmtMI l s cs))) ∧ Below w.heap.size w w' := by
  have hb0 : Below w.heap.size w (w.alloc (.cells #[.int .i64 l, .int .i64 s, .slice A cs.length c] 27)) := (Below.refl _ _).alloc (Nat.le_refl _) _
  have HB0 := Blk.new w 27 #[.int .i64 l, .int .i64 s, .slice A cs.length c]
  have R0 := hr.past hb0
  have Hi := Lib.hid (implIsModulator_any l s A c cs _ R0 (by omega))
  have q0 := HB0.cell 0
  have q1 := HB0.cell 1
  have q2 := HB0.cell 2
  simp at q0 q1 q2
  have RW := Lib.hid hr
  have Hb0 := Lib.hid hb0
  clear hb0 hr R0
  rcases Bool.eq_false_or_eq_true (modOk l s cs) with hs | hs
  · obtain ⟨m1, m2, m3, m4⟩ := mod_parts hs
    obtain ⟨k1, k2, k3, k4⟩ := quant_parts m2
    have HY := Lib.hid (fmtMI_eq hs)
    have HSQ := Lib.hid (modOk_seq hs)
    have d1 := decI_le (n := l) (by omega) (by omega)
    have d2 := decI_le (n := s) (by omega) (by omega)
    have d3 := fmtL_le HSQ.out
    rw [← bs_size] at d1 d2 d3
    have a1 := fun W : World => run_string_add_sum (P := Tryz.prog) W (ByteArray.mk #[109, 111, 100, 32]) (bs (decI l)) (by simp only [ByteArray.size_append', ByteArray.size_mk', List.size_toArray, List.length_cons, List.length_nil]; omega)
    have a2 := fun W : World => run_string_add_sum (P := Tryz.prog) W (ByteArray.mk #[109, 111, 100, 32] ++ bs (decI l)) (ByteArray.mk #[32]) (by simp only [ByteArray.size_append', ByteArray.size_mk', List.size_toArray, List.length_cons, List.length_nil]; omega)
    have a3 := fun W : World => run_string_add_sum (P := Tryz.prog) W (ByteArray.mk #[109, 111, 100, 32] ++ bs (decI l) ++ ByteArray.mk #[32]) (bs (decI s)) (by simp only [ByteArray.size_append', ByteArray.size_mk', List.size_toArray, List.length_cons, List.length_nil]; omega)
    have a4 := fun W : World => run_string_add_sum (P := Tryz.prog) W (ByteArray.mk #[109, 111, 100, 32] ++ bs (decI l) ++ ByteArray.mk #[32] ++ bs (decI s)) (ByteArray.mk #[32]) (by simp only [ByteArray.size_append', ByteArray.size_mk', List.size_toArray, List.length_cons, List.length_nil]; omega)
    have a5 := fun W : World => run_string_add_sum (P := Tryz.prog) W (ByteArray.mk #[109, 111, 100, 32] ++ bs (decI l) ++ ByteArray.mk #[32] ++ bs (decI s) ++ ByteArray.mk #[32]) (bs (fmtL cs)) (by simp only [ByteArray.size_append', ByteArray.size_mk', List.size_toArray, List.length_cons, List.length_nil]; omega)
    have HF : Hid (fmtI cs = fmtL cs) := by show _ = _; simp [fmtI, HSQ.out]
    have HM := Lib.hid hs
    clear m1 m2 hs
    go_enter Tryz.func13, Tryz.ntmps13
    go_wp2_with fail
    refine Hi.out.mono ?_; rintro e w1 ⟨rfl, h1⟩
    rw [HM.out]
    have HB1 := HB0.past h1
    have Hb1 := Lib.hid (thenB Hb0.out h1)
    clear q0 q1 q2 h1 Hi
    have q0 := HB1.cell 0
    have q1 := HB1.cell 1
    have q2 := HB1.cell 2
    simp at q0 q1 q2
    go_wp2_with fail
    go_region_held3 (fun w' => w'.cell? ⟨w.heap.size, 0, none⟩ = some (.int .i64 l) ∧ w'.cell? ⟨w.heap.size, 1, none⟩ = some (.int .i64 s) ∧ w'.cell? ⟨w.heap.size, 2, none⟩ = some (.slice A cs.length c)) (first | go_keep)
      (first
        | (go_at_call 55; refine (implDec_any _ _ (by omega) (by omega)).mono ?_; rintro e w' ⟨rfl, rfl⟩)
        | (go_at_call 51; refine (implFormat_any A c cs _ (RW.out.past (Hb1.out.trans ((Below.refl _ _).drew))) (by omega)).mono ?_; rintro e w2 ⟨rfl, h2⟩; rw [HF.out]; have HB2 := HB1.past ((Below.refl _ _).drew.trans h2); have Hb2 := Lib.hid (thenB Hb1.out ((Below.refl _ _).drew.trans h2)); clear q0 q1 q2 h2; have q0 := HB2.cell 0; have q1 := HB2.cell 1; have q2 := HB2.cell 2; simp at q0 q1 q2))
    go_wp2
    go_ret
    exact ⟨by rw [← HY.out]; rfl, Hb2.out⟩
  · have HY : Hid (fmtMI l s cs = []) := by show _ = _; simp [fmtMI, hs]
    have HM := Lib.hid hs
    clear hs
    go_enter Tryz.func13, Tryz.ntmps13
    go_wp2_with fail
    refine Hi.out.mono ?_; rintro e w1 ⟨rfl, h1⟩
    rw [HM.out]
    have Hb1 := Lib.hid (thenB Hb0.out h1)
    clear h1
    go_wp2
    go_ret
    exact ⟨by rw [HY.out]; rfl, Hb1.out⟩
set_option maxRecDepth 100000 in
set_option maxHeartbeats 1000000 in
theorem specFormatM_any (l s : Int) (A : Option Addr) (c : Nat) (cs : List Int) (w : World) (hr : Rd w w.heap.size A cs) (hn : cs.length ≤ 1048576) (hc : cs.length ≤ c) (hm : c ≤ 9223372036854775807) :
    Calls Tryz.prog 20 #[.agg #[.int .i64 l, .int .i64 s, .slice A cs.length c]] w fun e w' => e = .returned (.string (bs (fmtMI l s cs))) ∧ Below w.heap.size w w' := by
  have hb0 : Below w.heap.size w (w.alloc (.cells #[.int .i64 l, .int .i64 s, .slice A cs.length c] 27)) := (Below.refl _ _).alloc (Nat.le_refl _) _
  have HB0 := Blk.new w 27 #[.int .i64 l, .int .i64 s, .slice A cs.length c]
  have R0 := hr.past hb0
  have Hi := Lib.hid (specIsModulator_any l s A c cs _ R0 (by omega))
  have q0 := HB0.cell 0
  have q1 := HB0.cell 1
  have q2 := HB0.cell 2
  simp at q0 q1 q2
  have RW := Lib.hid hr
  have Hb0 := Lib.hid hb0
  clear hb0 hr R0
  rcases Bool.eq_false_or_eq_true (modOk l s cs) with hs | hs
  · obtain ⟨m1, m2, m3, m4⟩ := mod_parts hs
    obtain ⟨k1, k2, k3, k4⟩ := quant_parts m2
    have HY := Lib.hid (fmtMI_eq hs)
    have HSQ := Lib.hid (modOk_seq hs)
    have d1 := decI_le (n := l) (by omega) (by omega)
    have d2 := decI_le (n := s) (by omega) (by omega)
    have d3 := fmtL_le HSQ.out
    rw [← bs_size] at d1 d2 d3
    have a1 := fun W : World => run_string_add_sum (P := Tryz.prog) W (ByteArray.mk #[109, 111, 100, 32]) (bs (decI l)) (by simp only [ByteArray.size_append', ByteArray.size_mk', List.size_toArray, List.length_cons, List.length_nil]; omega)
    have a2 := fun W : World => run_string_add_sum (P := Tryz.prog) W (ByteArray.mk #[109, 111, 100, 32] ++ bs (decI l)) (ByteArray.mk #[32]) (by simp only [ByteArray.size_append', ByteArray.size_mk', List.size_toArray, List.length_cons, List.length_nil]; omega)
    have a3 := fun W : World => run_string_add_sum (P := Tryz.prog) W (ByteArray.mk #[109, 111, 100, 32] ++ bs (decI l) ++ ByteArray.mk #[32]) (bs (decI s)) (by simp only [ByteArray.size_append', ByteArray.size_mk', List.size_toArray, List.length_cons, List.length_nil]; omega)
    have a4 := fun W : World => run_string_add_sum (P := Tryz.prog) W (ByteArray.mk #[109, 111, 100, 32] ++ bs (decI l) ++ ByteArray.mk #[32] ++ bs (decI s)) (ByteArray.mk #[32]) (by simp only [ByteArray.size_append', ByteArray.size_mk', List.size_toArray, List.length_cons, List.length_nil]; omega)
    have a5 := fun W : World => run_string_add_sum (P := Tryz.prog) W (ByteArray.mk #[109, 111, 100, 32] ++ bs (decI l) ++ ByteArray.mk #[32] ++ bs (decI s) ++ ByteArray.mk #[32]) (bs (fmtL cs)) (by simp only [ByteArray.size_append', ByteArray.size_mk', List.size_toArray, List.length_cons, List.length_nil]; omega)
    have HF : Hid (fmtI cs = fmtL cs) := by show _ = _; simp [fmtI, HSQ.out]
    have HM := Lib.hid hs
    clear m1 m2 hs
    go_enter Tryz.func20, Tryz.ntmps20
    go_wp2_with fail
    refine Hi.out.mono ?_; rintro e w1 ⟨rfl, h1⟩
    rw [HM.out]
    have HB1 := HB0.past h1
    have Hb1 := Lib.hid (thenB Hb0.out h1)
    clear q0 q1 q2 h1 Hi
    replace HB1 := HB1.past (Below.refl _ _).drew
    replace Hb1 := Lib.hid (thenB Hb1.out (Below.refl _ _).drew)
    have q0 := HB1.cell 0
    have q1 := HB1.cell 1
    have q2 := HB1.cell 2
    simp at q0 q1 q2
    go_wp2_with fail
    go_region_held3 (fun w' => w'.cell? ⟨w.heap.size, 0, none⟩ = some (.int .i64 l) ∧ w'.cell? ⟨w.heap.size, 1, none⟩ = some (.int .i64 s) ∧ w'.cell? ⟨w.heap.size, 2, none⟩ = some (.slice A cs.length c)) (first | go_keep)
      (first
        | (go_at_call 63; refine (l7Number_any _ _ (by omega) (by omega)).mono ?_; rintro e w2 ⟨rfl, h2⟩; replace HB1 := HB1.past h2; replace Hb1 := Lib.hid (thenB Hb1.out h2); clear q0 q1 q2 h2; have q0 := HB1.cell 0; have q1 := HB1.cell 1; have q2 := HB1.cell 2; simp at q0 q1 q2)
        | (go_at_call 56; refine (l7Text_any A c cs _ (RW.out.past Hb1.out) hc hm HSQ.out).mono ?_; rintro e w2 ⟨rfl, h2⟩; replace HB1 := HB1.past h2; replace Hb1 := Lib.hid (thenB Hb1.out h2); clear q0 q1 q2 h2; have q0 := HB1.cell 0; have q1 := HB1.cell 1; have q2 := HB1.cell 2; simp at q0 q1 q2))
    go_wp2
    go_ret
    exact ⟨by rw [← HY.out]; rfl, Hb1.out⟩
  · have HY : Hid (fmtMI l s cs = []) := by show _ = _; simp [fmtMI, hs]
    have HM := Lib.hid hs
    clear hs
    go_enter Tryz.func20, Tryz.ntmps20
    go_wp2_with fail
    refine Hi.out.mono ?_; rintro e w1 ⟨rfl, h1⟩
    rw [HM.out]
    have Hb1 := Lib.hid (thenB Hb0.out h1)
    clear h1
    go_wp2
    go_ret
    exact ⟨by rw [HY.out]; rfl, Hb1.out⟩
theorem specFormat_c (A : Option Addr) (c : Nat) (xs : List Int) (w : World) (hr : Rd w w.heap.size A xs) (hn : xs.length ≤ 1048576) (hc : xs.length ≤ c ∧ c ≤ maxLen) :
    Calls Tryz.prog 114 #[.slice A xs.length c] w fun e w' => e = .returned (.string (bs (fmtI xs))) ∧ Below w.heap.size w w' :=
  specFormat_any A c xs w hr hn hc.1 (by have := hc.2; unfold maxLen at this; exact this)
theorem implFormat_c (A : Option Addr) (c : Nat) (xs : List Int) (w : World) (hr : Rd w w.heap.size A xs) (hn : xs.length ≤ 1048576) (hc : xs.length ≤ c ∧ c ≤ maxLen) :
    Calls Tryz.prog 51 #[.slice A xs.length c] w fun e w' => e = .returned (.string (bs (fmtI xs))) ∧ Below w.heap.size w w' :=
  implFormat_any A c xs w hr hn
end Go.Proofs.YtgkijkenbjjnmaaGreatDoor
