/- Contracts of strings.Split at one byte, and of the reference's l7Split. -/
import Derived.Test.YtgkijkenbjjnmaaGreatDoorPTxt
import Derived.Lib.IndexBytes
namespace Go.Proofs.YtgkijkenbjjnmaaGreatDoor
open Go.RowKit
set_option linter.unusedVariables false
set_option linter.unusedSimpArgs false
def RetSS (w : World) (ys : List ByteArray) (e : Ending) (w' : World) : Prop := ∃ A c, e = .returned (.slice A ys.length c) ∧ OwnS w' w.heap.size A c ys ∧ Below w.heap.size w w'
theorem ownS_below {w w' : World} {B B' c : Nat} {A : Option Addr} {xs : List ByteArray} (h : OwnS w B A c xs) (hb : Below B' w w') (hlt : ∀ a, A = some a → a.block < B') : OwnS w' B A c xs := by
  obtain ⟨h1, h2⟩ := h
  refine ⟨h1, ?_⟩
  rcases h2 with h2 | ⟨g, cap, cur, hv, hg, hh, r⟩
  · exact Or.inl h2
  · injection hv with e1 e2 e3
    exact Or.inr ⟨g, cap, cur, by rw [e1, e2, e3], hg, (hb.block g (hlt _ e1)).trans hh, r⟩
theorem ownS_lt {w : World} {B c : Nat} {A : Option Addr} {xs : List ByteArray} (h : OwnS w B A c xs) : ∀ a, A = some a → B ≤ a.block ∧ a.block < w.heap.size := fun a e => by
  subst e
  exact World.ownsRow.lt h _ rfl
theorem ownS_past {w w' : World} {B c : Nat} {A : Option Addr} {xs : List ByteArray} (h : OwnS w B A c xs) (hb : Below w.heap.size w w') : OwnS w' B A c xs := ownS_below h hb fun a e => (ownS_lt h a e).2
theorem ownS_wrote {w w' : World} {B c : Nat} {A A' : Option Addr} {xs : List ByteArray} (h : OwnS w B A c xs) (hw : Wrote w w' A') (ha : Apart A A') : OwnS w' B A c xs := by
  obtain ⟨h1, h2⟩ := h
  refine ⟨h1, ?_⟩
  rcases h2 with h2 | ⟨g, cap, cur, hv, hgg, hh, r⟩
  · exact Or.inl h2
  · have hlt := (Array.getElem?_eq_some_iff.1 hh).1
    injection hv with e1 e2 e3
    refine Or.inr ⟨g, cap, cur, by rw [e1, e2, e3], hgg, (hw.block g hlt ?_).trans hh, r⟩
    cases A' with
    | none => simp [row]
    | some a' => exact apart_row ha _ e1 (by simp)
theorem bs_extract (s : ByteArray) (a b : Nat) : s.extract a b = bs ((s.data.toList.drop a).take (b - a)) := by
  rw [← bs_list (s.extract a b), Lib.extract_data]
theorem bs_extract_end (s : ByteArray) (a : Nat) : s.extract a s.size = bs (s.data.toList.drop a) := by
  rw [← bs_list (s.extract a s.size), Lib.extract_to_end]
theorem sizeL (s : ByteArray) : s.data.toList.length = s.size := (Lib.size_eq s).symm
theorem byteL (s : ByteArray) (k : Nat) (h : k < s.size) : s.data.toList[k]'(by rw [sizeL]; exact h) = s[k] := by
  have := Lib.data_getElem? s k h
  rw [List.getElem?_eq_getElem (by rw [sizeL]; exact h)] at this
  exact Option.some.inj this
theorem split_any (s : ByteArray) (b : UInt8) (w : World) (hs : s.size < 4294967281) :
    Calls Tryz.prog 62 #[.string s, .string ⟨#[b]⟩] w (RetSS w ((spl b s.data.toList).map bs)) := by
  have h1 : 1 ≤ (ByteArray.mk #[b]).size := by simp [ByteArray.size]
  have hle := Lib.countB_le (ByteArray.mk #[b]) h1 s.size s (Nat.le_refl _)
  have hlen := Lib.splitB_all (ByteArray.mk #[b]) h1 0 _ s rfl
  have c := Go.Proofs.Any.strings_genSplit_core { Tryz.lays146 with } (by kernel_rfl) s (ByteArray.mk #[b]) 0 (-1) (Lib.countB s (ByteArray.mk #[b]) + 1) w hs h1 (Nat.zero_le _)
    (fun x c hx => (Tryz.strings_Index_one x b _).mono fun e w' ⟨he, hw⟩ => ⟨by rw [he]; show _ = Ending.returned (Value.int .i64 (Lib.index x.data.toList [b])); rw [Lib.index_one], hw⟩)
    ((Tryz.strings_Count_one s b w).mono fun e w' ⟨he, hw⟩ => ⟨by rw [he]; show _ = Ending.returned (Value.int .i64 ((Lib.count s.data.toList [b] : Nat) : Int)); rw [Lib.count_one]; rfl, hw⟩)
    (by decide) (by decide) (by rw [if_pos (by decide)]; omega)
  rw [Nat.add_sub_cancel, hlen] at c
  have e2 : Lib.cellsOf (Lib.splitB (ByteArray.mk #[b]) 0 (Lib.countB s (ByteArray.mk #[b])) s) (Lib.countB s (ByteArray.mk #[b]) + 1) = ((Lib.splitB (ByteArray.mk #[b]) 0 (Lib.countB s (ByteArray.mk #[b])) s).map Value.string).toArray := by rw [← hlen]; exact Lib.cellsOf_full _
  rw [e2] at c
  have e3 : Lib.splitB (ByteArray.mk #[b]) 0 (Lib.countB s (ByteArray.mk #[b])) s = (spl b s.data.toList).map bs := by
    have := splitB_spl s.data.toList b
    rw [bs_list] at this
    exact this
  rw [e3] at c
  have e4 : Lib.countB s (ByteArray.mk #[b]) + 1 = ((spl b s.data.toList).map bs).length := by rw [← e3, hlen]
  rw [e4] at c
  have hn := spl_len b s.data.toList
  have HL : Hid (((spl b s.data.toList).map bs).length ≤ 9223372036854775807) := by show _ ≤ _; rw [List.length_map]; have := sizeL s; omega
  have C := Lib.hid c
  obtain ⟨Y, hY⟩ : ∃ Y, Y = (spl b s.data.toList).map bs := ⟨_, rfl⟩
  rw [← hY] at C HL ⊢
  clear c e2 e3 e4 hlen hle hn hY
  go_enter Tryz.func62, Tryz.ntmps62
  go_wp2_with fail
  refine C.out.mono ?_
  rintro e w1 ⟨rfl, rfl⟩
  go_wp2
  go_ret
  refine ⟨_, _, rfl, ?_, (Below.refl _ _).alloc (Nat.le_refl _) _⟩
  have := World.ownsRow_lit (base := w.heap.size) (e := 9) (size := 1) w (Y.map Value.string).toArray Y.length (Nat.le_refl _) (by have := HL.out; unfold maxLen; exact this) (by simp)
  exact this
set_option maxRecDepth 100000 in
set_option maxHeartbeats 1000000 in
theorem l7Split_any (s : ByteArray) (b : UInt8) (w : World) (hs : s.size ≤ 1099511627775) :
    Calls Tryz.prog 69 #[.string s, .int .u8 (b.toNat : Int)] w (RetSS w ((spl b s.data.toList).map bs)) := by
  have hl := sizeL s
  have HL := Lib.hid hl
  obtain ⟨n, hn⟩ : ∃ n, n = s.size := ⟨_, rfl⟩
  clear hl
  go_enter Tryz.func69, Tryz.ntmps69
  go_wp2_with fail
  go_loopw [5, 6, 7] (fun q f i wr => ∃ (k o m : Nat) (done : List (List UInt8)) (Aq : Option Addr) (cq : Nat), k ≤ s.size ∧ o ≤ k ∧ m ≤ k ∧ i = .int .i64 k ∧ f = .int .i64 o ∧ q = .slice Aq m cq ∧ Hid ((done.map bs).length = m) ∧ Hid (OwnS wr w.heap.size Aq cq (done.map bs)) ∧ Hid (done ++ spl b (s.data.toList.drop o) = spl b s.data.toList) ∧ Hid (b ∉ (s.data.toList.drop o).take (k - o)) ∧ Hid (Below w.heap.size w wr)) (fun _ _ i _ => s.size - (intOf i).toNat)
  case atStart => exact ⟨0, 0, 0, [], _, 0, by omega, by omega, by omega, rfl, rfl, rfl, rfl, ownS_empty w _ (Nat.le_refl _), rfl, by show b ∉ _; simp, (Below.refl _ _).alloc (Nat.le_refl _) _⟩
  case round =>
    obtain ⟨k, o, m, done, Aq, cq, hk, ho, hm, rfl, rfl, rfl, Hm, HO, HD, HN, Hb⟩ := hrel
    by_cases hlt : k < s.size
    · have hkl : k < s.data.toList.length := by rw [HL.out]; exact hlt
      have HB := byteL s k hlt
      by_cases hc : s[k] = b
      · have t1 : ((((s[k].toNat : Nat) : Int)) == ((b.toNat : Nat) : Int)) = true := by rw [hc]; simp
        have HS := Lib.hid (spl_step (b := b) ho hkl HN.out (HB.trans hc))
        have HE := Lib.hid (bs_extract s o k)
        have HD2 : Hid ((done ++ [(s.data.toList.drop o).take (k - o)]) ++ spl b (s.data.toList.drop (k + 1)) = spl b s.data.toList) := by show _ = _; rw [← HD.out, HS.out]; simp
        have HX : Hid ((done ++ [(s.data.toList.drop o).take (k - o)]).map bs = done.map bs ++ [s.extract o k]) := by show _ = _; rw [HE.out, List.map_append]; rfl
        clear HB hc HS HE HD HN
        go_wp2_with (at_builtin; refine appS_new rfl (.tmp 20) (.tmp 25) rfl w.heap.size Aq cq m (done.map bs) _ Hm.out rfl HO.out rfl (by omega) Hb.out.size ?_)
        intro A1 c1 w1 hO1 hw1
        have hB1 := Lib.hid (Hb.out.trans (below_wrote hw1 Hb.out.size (ownS_lo HO.out)))
        have HO1 : Hid (OwnS w1 w.heap.size A1 c1 ((done ++ [(s.data.toList.drop o).take (k - o)]).map bs)) := by show OwnS _ _ _ _ _; rw [HX.out]; exact hO1
        have HM1 : Hid (((done ++ [(s.data.toList.drop o).take (k - o)]).map bs).length = m + 1) := by show _ = _; rw [HX.out, List.length_append, Hm.out]; rfl
        clear hO1 hw1 HX HO Hb Hm
        go_wp2
        go_roundw
        case rel => exact ⟨k + 1, k + 1, m + 1, _, A1, c1, by omega, by omega, by omega, by go_num, by go_num, rfl, HM1.out, HO1.out, HD2.out, by show b ∉ _; simp, hB1.out⟩
        case measure => simp [intOf]; omega
      · have t1 : ((((s[k].toNat : Nat) : Int)) == ((b.toNat : Nat) : Int)) = false := by
          rw [beq_eq_false_iff_ne]; exact fun h => hc (Lib.byte_eq_of_toNat h)
        have HN2 := Lib.hid (nob_step (b := b) ho hkl HN.out (by rw [HB]; exact hc))
        clear HB hc HN
        go_wp2
        go_roundw
        case rel => exact ⟨k + 1, o, m, done, Aq, cq, by omega, by omega, by omega, by go_num, rfl, rfl, Hm.out, HO.out, HD.out, HN2.out, Hb.out⟩
        case measure => simp [intOf]; omega
    · obtain rfl : k = s.size := by omega
      have hd : (s.data.toList.drop o).take (s.size - o) = s.data.toList.drop o := List.take_of_length_le (by rw [List.length_drop, HL.out]; exact Nat.le_refl _)
      have HS : Hid (spl b (s.data.toList.drop o) = [s.data.toList.drop o]) := spl_none (by have h := HN.out; rwa [hd] at h)
      have HE := Lib.hid (bs_extract_end s o)
      have HX : Hid ((spl b s.data.toList).map bs = done.map bs ++ [s.extract o s.size]) := by show _ = _; rw [← HD.out, HS.out, HE.out, List.map_append]; rfl
      clear hd HS HE HD HN
      go_wp2_with (at_builtin; refine appS_new rfl (.tmp 29) (.tmp 33) rfl w.heap.size Aq cq m (done.map bs) _ Hm.out rfl HO.out rfl (by omega) Hb.out.size ?_)
      intro A1 c1 w1 hO1 hw1
      have hB1 := Lib.hid (Hb.out.trans (below_wrote hw1 Hb.out.size (ownS_lo HO.out)))
      have HO1 : Hid (OwnS w1 w.heap.size A1 c1 ((spl b s.data.toList).map bs)) := by show OwnS _ _ _ _ _; rw [HX.out]; exact hO1
      have HM1 : Hid (m + 1 = ((spl b s.data.toList).map bs).length) := by show _ = _; rw [HX.out, List.length_append, Hm.out]; rfl
      clear hO1 hw1 HX HO Hb Hm
      go_wp2
      go_ret
      exact ⟨A1, c1, by rw [← HM1.out]; rfl, HO1.out, hB1.out⟩
end Go.Proofs.YtgkijkenbjjnmaaGreatDoor
