/- Contracts of the draws: cursor at first, bytes made anew, sequences, accumulators and what belongs to them. -/
import Derived.Test.YtfplecbacgcjgaaGen
import Derived.Test.YtfplecbacgcjgaaClone
namespace Go.Proofs.Ytfplecbacgcjgaa
open Go.RowKit
set_option linter.unusedVariables false
set_option linter.unusedSimpArgs false
def RetCur (w : World) (e : Ending) (w' : World) : Prop := ∃ g, e = .returned (.pointer (some ⟨g, 0, none⟩)) ∧ w.heap.size ≤ g ∧ Cur w' g ∧ Below w.heap.size w w'
set_option maxRecDepth 100000 in
set_option maxHeartbeats 400000 in
theorem l01New_any (A : Option Addr) (c n : Nat) (w : World) (hr : RdB w w.heap.size A n) (hn : n ≤ 4294967296) : Calls Try.prog 49 #[.slice A n c] w (RetCur w) := by
  go_enter Try.func49, Try.ntmps49
  go_wp2
  go_loop [3, 4] (fun q i => ∃ (k : Nat) (h : Int), k ≤ n ∧ k ≤ 4000 ∧ i = .int .i64 k ∧ q = .int .i64 h) (fun _ i => n - (intOf i).toNat)
  case atStart => exact ⟨0, _, by omega, by omega, rfl, rfl⟩
  case round =>
    obtain ⟨k, h, hk, hk2, rfl, rfl⟩ := hrel
    by_cases hlt : k < n
    · by_cases hlt2 : k < 4000
      · obtain ⟨ad, rfl, hbl, v, v1, v2, hv⟩ := hr.at_ hlt
        go_wp2
        go_round
        case rel => exact ⟨k + 1, _, by omega, by omega, by go_num, rfl⟩
        case measure => simp [intOf]; omega
      · have hlt3 : decide ((k : Int) < 4000) = false := by simp; omega
        go_wp2
        go_ret
        exact ⟨w.heap.size, rfl, Nat.le_refl _, ⟨A, n, c, 0, h, Blk.new w _ _, by omega, by omega, hr.below ((Below.refl _ _).alloc (Nat.le_refl _) _)⟩, (Below.refl _ _).alloc (Nat.le_refl _) _⟩
    · have hlt3 : decide ((k : Int) < n) = false := by simp; omega
      go_wp2
      go_ret
      exact ⟨w.heap.size, rfl, Nat.le_refl _, ⟨A, n, c, 0, h, Blk.new w _ _, by omega, by omega, hr.below ((Below.refl _ _).alloc (Nat.le_refl _) _)⟩, (Below.refl _ _).alloc (Nat.le_refl _) _⟩
theorem at_any (A : Option Addr) (c n : Nat) (i : Int) (w : World) (hr : RdB w w.heap.size A n) (hn : n ≤ 4294967296) (i0 : 0 ≤ i) (i1 : i ≤ 1000) :
    Calls Try.prog 14 #[.slice A n c, .int .i64 i] w fun e w' => (∃ v : Int, e = .returned (.int .i64 v) ∧ 0 ≤ v ∧ v ≤ 255) ∧ w = w' := by
  obtain ⟨k, rfl⟩ : ∃ k : Nat, i = k := ⟨i.toNat, by omega⟩
  by_cases hlt : k < n
  · obtain ⟨ad, rfl, hbl, v, v1, v2, hv⟩ := hr.at_ hlt
    go_enter Try.func14, Try.ntmps14
    go_wp2
    go_ret
    exact ⟨⟨v, rfl, v1, v2⟩, rfl⟩
  · go_enter Try.func14, Try.ntmps14
    go_wp2
    go_ret
    exact ⟨⟨_, rfl, by omega, by omega⟩, rfl⟩
theorem abs_any (x : Int) (w : World) (h1 : -9223372036854775807 ≤ x) (h2 : x ≤ 9223372036854775807) :
    Calls Try.prog 24 #[.int .i64 x] w fun e w' => e = .returned (.int .i64 (max x (-x))) ∧ w = w' := by
  go_enter Try.func24, Try.ntmps24
  go_wp2
  all_goals (go_ret; first | exact ⟨ret_int (show x = max x (-x) by omega), rfl⟩ | exact ⟨ret_int (show -x = max x (-x) by omega), rfl⟩)
set_option maxHeartbeats 400000 in
theorem ints_any (A A' : Option Addr) (c c' : Nat) (xs ys : List Int) (w : World) (hx : Rd w w.heap.size A xs) (hy : Rd w w.heap.size A' ys) (hn : xs.length ≤ 9223372036854775807) :
    Calls Try.prog 29 #[.slice A xs.length c, .slice A' ys.length c'] w fun e w' => e = .returned (.bool (eqB xs ys)) ∧ Below w.heap.size w w' := by
  by_cases hl : xs.length = ys.length
  · have hl1 : xs.length ≤ ys.length := by omega
    have hl2 : ys.length ≤ xs.length := by omega
    have hd : (((xs.length : Nat) : Int) != ((ys.length : Nat) : Int)) = false := by simp; omega
    have Hl := Lib.hid hl
    clear hl
    go_enter Try.func29, Try.ntmps29
    go_wp2
    go_loopw [13] (fun i wr => ∃ k : Nat, k ≤ xs.length ∧ i = .int .i64 k ∧ EqTo xs ys k ∧ Below w.heap.size w wr) (fun i _ => xs.length - (intOf i).toNat)
    case atStart => exact ⟨0, by omega, rfl, by simp [EqTo], Below.refl _ _⟩
    case round =>
      obtain ⟨k, hk, rfl, he, hb⟩ := hrel
      by_cases hlt : k < xs.length
      · obtain ⟨ad, rfl, hbl, hcell⟩ := hx.at_ hlt
        obtain ⟨ad', rfl, hbl', hcell'⟩ := hy.at_ (k := k) (by omega)
        have hc1 : wr.cell? (ad.add k) = some (.int .i64 (xs.getD k 0)) := (hb.cell (by rw [block_add]; exact hbl)).trans (hcell k hlt)
        have hc2 : wr.cell? (ad'.add k) = some (.int .i64 (ys.getD k 0)) := (hb.cell (by rw [block_add]; exact hbl')).trans (hcell' k (by omega))
        have hlt' : k < ys.length := by omega
        clear hx hy hcell hcell'
        go_wp2
        go_quiet (fail)
        go_wp2
        · go_ret
          have hne : (xs[k] != ys[k]) = true := by assumption
          exact ⟨ret_bool (eqB_ne_at hlt hlt' (by simpa using hne)).symm, below_drewN' hb _⟩
        · have heq : (xs[k] != ys[k]) = false := by assumption
          go_roundw
          case rel => exact ⟨k + 1, by omega, by go_num, eqTo_step he hlt hlt' (by simpa using heq), below_drewN' hb _⟩
          case measure => simp [intOf]; omega
      · go_wp2
        go_ret
        obtain rfl : k = xs.length := by omega
        exact ⟨ret_bool (eqTo_all he Hl.out).symm, hb⟩
  · have hd : (((xs.length : Nat) : Int) != ((ys.length : Nat) : Int)) = true := by simp; omega
    go_enter Try.func29, Try.ntmps29
    go_wp2
    go_ret
    exact ⟨ret_bool (eqB_ne_len hl).symm, Below.refl _ _⟩
set_option maxHeartbeats 400000 in
theorem constant_any (v : Int) (n : Nat) (w : World) (hn : n ≤ 1048576) : Calls Try.prog 45 #[.int .i64 v, .int .i64 n] w (RetSl w (List.replicate n v)) := by
  obtain ⟨R, hR⟩ : ∃ R, R = List.replicate n v := ⟨_, rfl⟩
  rw [← hR]
  have hl : R.length = n := by rw [hR]; simp
  have HR : Hid (∀ k (h : k < R.length), R[k] = v) := fun k h => by subst hR; simp
  have HL := Lib.hid hl
  have hln : n ≤ R.length := by omega
  clear hl hR
  go_enter Try.func45, Try.ntmps45
  go_wp2
  go_loopw [5, 6] (fun q i wr => ∃ (k : Nat) (Aq : Option Addr) (cq : Nat), k ≤ n ∧ i = .int .i64 k ∧ q = .slice Aq k cq ∧ Own wr w.heap.size Aq cq (R.take k) ∧ Below w.heap.size w wr) (fun _ i _ => n - (intOf i).toNat)
  case atStart => exact ⟨0, _, 0, by omega, rfl, rfl, own_empty w _ (Nat.le_refl _), (Below.refl _ _).alloc (Nat.le_refl _) _⟩
  case round =>
    obtain ⟨k, Aq, cq, hk, rfl, rfl, hown, hb⟩ := hrel
    by_cases hlt : k < n
    · have hkR : k < R.length := by rw [HL.out]; exact hlt
      go_wp2_with (at_builtin; refine app_take rfl (.tmp 13) (.tmp 15) rfl w.heap.size Aq cq k R _ hkR ?_ rfl hown rfl (by omega) hb.size ?_)
      · exact HR.out k hkR
      intro A1 c1 w1 hown1 hw1 hm1
      go_wp2
      go_roundw
      case rel => exact ⟨k + 1, A1, c1, by omega, by go_num, rfl, hown1, below_app hb hw1 hown hb.size⟩
      case measure => simp [intOf]; omega
    · obtain rfl : k = n := by omega
      rw [List.take_of_length_le (by rw [HL.out]; omega)] at hown
      go_wp2
      go_ret
      exact ⟨Aq, cq, by rw [HL.out]; rfl, hown, hb⟩
theorem two_any (A : Option Addr) (c : Nat) (xs : List Int) (A' : Option Addr) (c' : Nat) (ys : List Int) (w : World) (hr : Rd w w.heap.size A xs) (hn : xs.length ≤ 1048576) (hr' : Rd w w.heap.size A' ys) (hn' : ys.length ≤ 1048576) :
    Calls Try.prog 44 #[.slice A xs.length c, .slice A' ys.length c'] w (RetSl w (xs ++ ys)) := by
  have hb0 : Below w.heap.size w (w.alloc (.cells #[] 3)) := (Below.refl _ _).alloc (Nat.le_refl _) _
  have hR := hr.below hb0
  go_enter Try.func44, Try.ntmps44
  go_wp2_with (at_builtin; refine app_list rfl (.tmp 5) (.tmp 6) rfl w.heap.size _ _ 0 [] rfl rfl (own_empty w _ (Nat.le_refl _)) w.heap.size A c xs rfl hR (by omega) (by simp) ?_)
  intro A1 c1 w1 hown1 hw1 hm1
  have hb1 := hb0.trans (below_wrote hw1 (by simp) (own_lo (own_empty w _ (Nat.le_refl _))))
  have hR' := hr'.below hb1
  go_wp2_with (at_builtin; refine app_list rfl (.tmp 7) (.tmp 8) rfl w.heap.size _ _ xs.length xs rfl rfl hown1 w.heap.size A' c' ys rfl hR' (by omega) hb1.size ?_)
  intro A2 c2 w2 hown2 hw2 hm2
  go_wp2
  go_ret
  exact ⟨A2, c2, by simp, hown2, hb1.trans (below_wrote hw2 hb1.size (own_lo hown1))⟩
end Go.Proofs.Ytfplecbacgcjgaa
