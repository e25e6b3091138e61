/- Plain laws of texts: a text cut at a byte, decimals that are read back, lists and modulators out of their texts. No program. -/
import Derived.Test.YtgkijkenbjjnmaaGreatDoorFmtS
import Derived.Test.YtgkijkenbjjnmaaGreatDoorPMod
import Derived.Lib.SplitLaws
namespace Go.Proofs.YtgkijkenbjjnmaaGreatDoor
open Go.RowKit
set_option linter.unusedVariables false
set_option linter.unusedSimpArgs false
/-- A text cut at each occurrence of a byte. -/
def spl (b : UInt8) : List UInt8 → List (List UInt8)
  | [] => [[]]
  | c :: l => if c = b then [] :: spl b l else ((c :: (spl b l).headD []) :: (spl b l).tail)
theorem spl_ne (b : UInt8) : ∀ l, spl b l ≠ []
  | [] => by simp [spl]
  | c :: l => by unfold spl; split <;> simp
theorem spl_none {b : UInt8} : ∀ {l : List UInt8}, b ∉ l → spl b l = [l]
  | [], _ => rfl
  | c :: l, h => by
    rw [List.mem_cons, not_or] at h
    unfold spl
    rw [if_neg (fun e => h.1 e.symm), spl_none h.2]; rfl
theorem spl_hit {b : UInt8} : ∀ {p : List UInt8} (l : List UInt8), b ∉ p → spl b (p ++ b :: l) = p :: spl b l
  | [], l, _ => by show spl b (b :: l) = _; rw [spl, if_pos rfl]
  | c :: p, l, h => by
    rw [List.mem_cons, not_or] at h
    show spl b (c :: (p ++ b :: l)) = _
    rw [spl, if_neg (fun e => h.1 e.symm), spl_hit l h.2]; rfl
theorem spl_len (b : UInt8) : ∀ l, (spl b l).length ≤ l.length + 1 ∧ 1 ≤ (spl b l).length
  | [] => by simp [spl]
  | c :: l => by
    have ih := spl_len b l
    unfold spl
    split
    · simp; omega
    · simp; omega
theorem spl_mem {b : UInt8} : ∀ {l p : List UInt8}, p ∈ spl b l → b ∉ p ∧ p.length ≤ l.length
  | [], p, h => by simp [spl] at h; subst h; simp
  | c :: l, p, h => by
    unfold spl at h
    split at h
    · rcases List.mem_cons.1 h with rfl | h
      · simp
      · have := spl_mem h; exact ⟨this.1, by simp; omega⟩
    · rename_i hc
      rcases List.mem_cons.1 h with rfl | h
      · have hm : (spl b l).headD [] ∈ spl b l := by
          have hne := spl_ne b l
          cases hs : spl b l with
          | nil => exact absurd hs hne
          | cons x r => simp
        have := spl_mem hm
        refine ⟨?_, by rw [List.length_cons, List.length_cons]; omega⟩
        rw [List.mem_cons, not_or]
        exact ⟨fun e => hc e.symm, this.1⟩
      · have := spl_mem (List.mem_of_mem_tail h); exact ⟨this.1, by simp; omega⟩
theorem join_two (x y : List UInt8) (r : List (List UInt8)) (sep : List UInt8) : Lib.join (x :: y :: r) sep = x ++ sep ++ Lib.join (y :: r) sep := by
  rw [Lib.join_cons, Lib.join_cons]; simp [Lib.joinTail, List.append_assoc]
theorem spl_join (b : UInt8) : ∀ l, Lib.join (spl b l) [b] = l
  | [] => by simp [spl, Lib.join_one]
  | c :: l => by
    have ih := spl_join b l
    unfold spl
    have hne := spl_ne b l
    cases hs : spl b l with
    | nil => exact absurd hs hne
    | cons x r =>
      rw [hs] at ih
      split
      · rename_i hc
        rw [join_two, ih, hc]; simp
      · simp only [List.headD_cons, List.tail_cons]
        rw [Lib.join_cons] at ih ⊢
        rw [List.cons_append, ih]
theorem spl_of_join {b : UInt8} : ∀ {ps : List (List UInt8)}, ps ≠ [] → (∀ p ∈ ps, b ∉ p) → spl b (Lib.join ps [b]) = ps
  | [], h, _ => absurd rfl h
  | [x], _, h => by rw [Lib.join_one, spl_none (h x (by simp))]
  | x :: y :: r, _, h => by
    have e : Lib.join (x :: y :: r) [b] = x ++ b :: Lib.join (y :: r) [b] := by rw [join_two]; simp
    rw [e, spl_hit _ (h x (by simp)), spl_of_join (by simp) fun p hp => h p (List.mem_cons_of_mem _ hp)]
theorem split_at {b : UInt8} {l : List UInt8} {i : Nat} (h : Lib.indexByte l b = i) : b ∉ l.take i ∧ l = l.take i ++ b :: l.drop (i + 1) := by
  obtain ⟨h1, h2⟩ := Lib.indexByte_some h
  refine ⟨fun hm => ?_, ?_⟩
  · obtain ⟨k, hk, e⟩ := List.getElem_of_mem hm
    rw [List.length_take] at hk
    refine h2 k (by omega) ?_
    rw [List.getElem_take] at e
    rw [List.getElem?_eq_getElem (by omega), e]
  · have hi := (List.getElem?_eq_some_iff.1 h1).1
    have e := (List.getElem?_eq_some_iff.1 h1).2
    conv => lhs; rw [← List.take_append_drop i l, List.drop_eq_getElem_cons hi, e]
theorem splitK_spl (b : UInt8) : ∀ (k : Nat) (s : List UInt8), Lib.count s [b] = k → Lib.splitK [b] 0 k s = spl b s
  | 0, s, h => by
    have hm : Lib.index s [b] = -1 := by
      rcases Lib.index_spec s [b] with ⟨h1, _⟩ | ⟨i, h1, _⟩
      · exact h1
      · rw [Lib.count_hit (by simp) h1] at h; omega
    rw [Lib.index_one] at hm
    have hn := Lib.indexByte_none hm
    rw [spl_none]
    · rfl
    · intro hb
      obtain ⟨j, hj, e⟩ := List.getElem_of_mem hb
      exact hn j (by rw [List.getElem?_eq_getElem hj, e])
  | k + 1, s, h => by
    rcases Lib.index_spec s [b] with ⟨h1, _⟩ | ⟨i, h1, _⟩
    · rw [Lib.count_miss h1] at h; omega
    · have hc := Lib.count_hit (sub := [b]) (by simp) h1
      rw [Lib.index_one] at h1
      obtain ⟨a1, a2⟩ := split_at h1
      have ih := splitK_spl b k (s.drop (i + 1)) (by rw [h] at hc; simp at hc; omega)
      unfold Lib.splitK
      rw [Lib.index_one, h1, if_neg (by simp)]
      simp only [Int.toNat_natCast, Nat.add_zero, List.length_singleton]
      rw [ih]
      conv => rhs; rw [a2]
      rw [spl_hit _ a1]
theorem split_spl (s : List UInt8) (b : UInt8) : (Lib.splitB (bs [b]) 0 (Lib.countB (bs s) (bs [b])) (bs s)).map (·.data.toList) = spl b s := by
  rw [Lib.splitB_data]
  exact splitK_spl b _ s rfl
theorem bs_list (s : ByteArray) : bs s.data.toList = s := by
  obtain ⟨⟨l⟩⟩ := s; rfl
theorem splitB_spl (s : List UInt8) (b : UInt8) : Lib.splitB (bs [b]) 0 (Lib.countB (bs s) (bs [b])) (bs s) = (spl b s).map bs := by
  rw [← split_spl, List.map_map]
  conv => lhs; rw [← List.map_id (Lib.splitB _ _ _ _)]
  exact List.map_congr_left fun v _ => (bs_list v).symm
theorem countB_spl (s : List UInt8) (b : UInt8) : Lib.countB (bs s) (bs [b]) + 1 = (spl b s).length := by
  have := Lib.splitB_all (bs [b]) (by simp [bs_size]) 0 _ (bs s) rfl
  rw [← this, splitB_spl, List.length_map]
/-- What is still uncut, from the place where the last piece ended. -/
theorem spl_step {b : UInt8} {s : List UInt8} {o i : Nat} (ho : o ≤ i) (hi : i < s.length) (hn : b ∉ (s.drop o).take (i - o)) (hb : s[i] = b) : spl b (s.drop o) = (s.drop o).take (i - o) :: spl b (s.drop (i + 1)) := by
  have e : s.drop o = (s.drop o).take (i - o) ++ b :: s.drop (i + 1) := by
    conv => lhs; rw [← List.take_append_drop (i - o) (s.drop o)]
    rw [List.drop_drop, show o + (i - o) = i by omega, List.drop_eq_getElem_cons hi, hb]
  conv => lhs; rw [e]
  exact spl_hit _ hn
theorem nob_step {b : UInt8} {s : List UInt8} {o i : Nat} (ho : o ≤ i) (hi : i < s.length) (hn : b ∉ (s.drop o).take (i - o)) (hb : s[i] ≠ b) : b ∉ (s.drop o).take (i + 1 - o) := by
  have e : (s.drop o).take (i + 1 - o) = (s.drop o).take (i - o) ++ [s[i]] := by
    rw [show i + 1 - o = (i - o) + 1 by omega, List.take_succ_eq_append_getElem (by rw [List.length_drop]; omega)]
    congr 2
    rw [List.getElem_drop]; congr 1; omega
  rw [e, List.mem_append, List.mem_singleton]
  rintro (h | h)
  · exact hn h
  · exact hb h.symm
/-! ### Decimals -/
def dgB (c : UInt8) : Bool := decide (48 ≤ c.toNat) && decide (c.toNat ≤ 57)
def val (l : List UInt8) : Nat := l.foldl (fun n c => 10 * n + (c.toNat - 48)) 0
theorem val_snoc (l : List UInt8) (c : UInt8) : val (l ++ [c]) = 10 * val l + (c.toNat - 48) := by simp [val, List.foldl_append]
theorem dgB_of {c : UInt8} (h : dgB c = true) : 48 ≤ c.toNat ∧ c.toNat ≤ 57 := by simpa [dgB] using h
theorem snoc_cases {α : Type} (l : List α) : l = [] ∨ ∃ p c, l = p ++ [c] := by
  rcases List.eq_nil_or_concat l with h | ⟨p, c, h⟩
  · exact .inl h
  · exact .inr ⟨p, c, by rw [h, List.concat_eq_append]⟩
theorem val_lt : ∀ (k : Nat) (l : List UInt8), l.length = k → l.all dgB = true → val l < 10 ^ k
  | 0, l, h, _ => by have := List.eq_nil_of_length_eq_zero h; subst this; simp [val]
  | k + 1, l, h, ha => by
    rcases snoc_cases l with rfl | ⟨p, c, rfl⟩
    · simp at h
    · rw [List.all_append, Bool.and_eq_true] at ha
      have h1 := val_lt k p (by simp at h; omega) ha.1
      have h2 := dgB_of (c := c) (by simpa using ha.2)
      rw [val_snoc, Nat.pow_succ]
      omega
theorem dig_of {c : UInt8} (h : dgB c = true) : dig (c.toNat - 48) = c := by
  have := dgB_of h
  unfold dig
  rw [show 48 + (c.toNat - 48) = c.toNat by omega]
  simp
theorem dig_dgB {d : Nat} (h : d < 10) : dgB (dig d) = true ∧ (dig d).toNat = 48 + d := by
  have e : (dig d).toNat = 48 + d := by unfold dig; rw [UInt8.toNat_ofNat_of_lt' (show 48 + d < 256 by omega)]
  refine ⟨?_, e⟩
  unfold dgB; rw [e]; simp; omega
theorem decL_ne (n : Nat) : decL n ≠ [] := by
  by_cases h : n < 10
  · rw [decL_small h]; simp
  · rw [decL_big (by omega)]; simp
theorem decL_dig (n : Nat) : (decL n).all dgB = true := by
  induction n using Nat.strongRecOn with
  | _ n ih =>
    by_cases h : n < 10
    · rw [decL_small h]; simp [(dig_dgB h).1]
    · rw [decL_big (by omega), List.all_append, ih (n / 10) (by omega)]
      simp [(dig_dgB (Nat.mod_lt n (show 0 < 10 by omega))).1]
theorem val_decL (n : Nat) : val (decL n) = n := by
  induction n using Nat.strongRecOn with
  | _ n ih =>
    by_cases h : n < 10
    · have := (dig_dgB h).2
      rw [decL_small h, show [dig n] = [] ++ [dig n] from rfl, val_snoc]
      simp [val]; omega
    · have := (dig_dgB (Nat.mod_lt n (show 0 < 10 by omega))).2
      rw [decL_big (by omega), val_snoc, ih (n / 10) (by omega)]
      omega
theorem decL_head {n : Nat} : ∀ {t : List UInt8}, decL n = 48 :: t → n = 0 := by
  induction n using Nat.strongRecOn with
  | _ n ih =>
    intro t ht
    by_cases h : n < 10
    · rw [decL_small h] at ht
      have e := congrArg UInt8.toNat (List.cons.inj ht).1
      rw [(dig_dgB h).2] at e
      have : (48 : UInt8).toNat = 48 := rfl
      omega
    · rw [decL_big (by omega)] at ht
      cases hq : decL (n / 10) with
      | nil => exact absurd hq (decL_ne _)
      | cons x r =>
        rw [hq] at ht
        obtain ⟨e1, _⟩ := List.cons.inj ht
        subst e1
        have := ih (n / 10) (by omega) hq
        omega
theorem decL_zero : decL 0 = [48] := by rw [decL_small (by omega)]; rfl
/-- Digits that are written as a number is: no 0 ahead. -/
def canonB (l : List UInt8) : Bool := !(decide (l[0]? = some 48) && decide (1 < l.length))
theorem decL_val : ∀ (k : Nat) (l : List UInt8), l.length = k + 1 → l.all dgB = true → canonB l = true → decL (val l) = l
  | 0, l, h, ha, _ => by
    obtain ⟨c, rfl⟩ := List.length_eq_one_iff.1 h
    have hd : dgB c = true := by simpa using ha
    have := dgB_of hd
    rw [show [c] = [] ++ [c] from rfl, val_snoc, show val [] = 0 from rfl, Nat.mul_zero, Nat.zero_add, decL_small (by omega), dig_of hd]; rfl
  | k + 1, l, h, ha, hc => by
    rcases snoc_cases l with rfl | ⟨p, c, rfl⟩
    · simp at h
    · rw [List.all_append, Bool.and_eq_true] at ha
      have hp : p.length = k + 1 := by simp at h; omega
      have hd : dgB c = true := by simpa using ha.2
      have hd2 := dgB_of hd
      have hne : p[0]? ≠ some 48 := by
        intro e
        simp only [canonB, List.length_append, List.length_singleton, hp] at hc
        rw [List.getElem?_append_left (by omega), e] at hc
        simp at hc
      have ih := decL_val k p hp ha.1 (by simp [canonB, hne])
      have hv : val p ≠ 0 := by
        intro e
        rw [e, decL_zero] at ih
        rw [← ih] at hne
        simp at hne
      rw [val_snoc, decL_big (by omega), show (10 * val p + (c.toNat - 48)) / 10 = val p by omega, show (10 * val p + (c.toNat - 48)) % 10 = c.toNat - 48 by omega, ih, dig_of hd]
theorem decL_canon (n : Nat) : canonB (decL n) = true := by
  cases hq : decL n with
  | nil => exact absurd hq (decL_ne n)
  | cons x r =>
    by_cases hx : x = 48
    · subst hx
      have := decL_head hq
      subst this
      rw [decL_zero] at hq
      rw [← hq]; rfl
    · simp [canonB, hx]
/-- The number whose text is a list of digits, at most 13 of them. -/
def rdP (l : List UInt8) : Option Nat := if decide (1 ≤ l.length) && decide (l.length ≤ 13) && l.all dgB && canonB l then some (val l) else none
theorem rdP_iff (l : List UInt8) (n : Nat) : rdP l = some n ↔ l = decL n ∧ n < 10000000000000 := by
  unfold rdP
  constructor
  · intro h
    split at h
    · rename_i hc
      simp only [Bool.and_eq_true, decide_eq_true_eq] at hc
      obtain ⟨⟨⟨h1, h2⟩, h3⟩, h4⟩ := hc
      cases h
      refine ⟨(decL_val (l.length - 1) l (by omega) h3 h4).symm, ?_⟩
      have a := val_lt _ l rfl h3
      have b : 10 ^ l.length ≤ 10 ^ 13 := Nat.pow_le_pow_right (by omega) h2
      omega
    · cases h
  · rintro ⟨rfl, hn⟩
    have h1 := decL_len 12 n (by omega)
    have h2 : 1 ≤ (decL n).length := List.length_pos_iff.2 (decL_ne n)
    rw [if_pos (by simp only [Bool.and_eq_true, decide_eq_true_eq]; exact ⟨⟨⟨h2, h1⟩, decL_dig n⟩, decL_canon n⟩), val_decL]
/-- The number whose text is a list of bytes. -/
def rd (l : List UInt8) : Option Int := if l[0]? = some 45 then (match rdP (l.drop 1) with
    | some (n + 1) => some (-((n + 1 : Nat) : Int))
    | _ => none) else (match rdP l with
    | some n => some (n : Int)
    | none => none)
theorem decL_no45 (n : Nat) : (decL n)[0]? ≠ some 45 := by
  intro h
  have hd := decL_dig n
  cases hq : decL n with
  | nil => exact absurd hq (decL_ne n)
  | cons x r =>
    rw [hq] at h hd
    simp at h
    subst h
    simp [dgB] at hd
theorem rd_iff (l : List UInt8) (n : Int) : rd l = some n ↔ l = decI n ∧ n.natAbs < 10000000000000 := by
  unfold rd
  split
  · rename_i h0
    cases l with
    | nil => simp at h0
    | cons x t =>
      simp at h0
      subst h0
      simp only [List.drop_succ_cons, List.drop_zero]
      constructor
      · intro h
        split at h
        · rename_i m hm
          obtain ⟨e1, e2⟩ := (rdP_iff t (m + 1)).1 hm
          cases h
          rw [decI_neg (m + 1) (by omega), ← e1]
          exact ⟨rfl, by omega⟩
        · cases h
      · rintro ⟨h1, h2⟩
        by_cases hn : n < 0
        · obtain ⟨m, rfl⟩ : ∃ m : Nat, n = -((m + 1 : Nat) : Int) := ⟨n.natAbs - 1, by omega⟩
          rw [decI_neg (m + 1) (by omega)] at h1
          have e := (rdP_iff t (m + 1)).2 ⟨(List.cons.inj h1).2, by omega⟩
          rw [e]
        · obtain ⟨m, rfl⟩ : ∃ m : Nat, n = m := ⟨n.natAbs, by omega⟩
          rw [decI_pos] at h1
          exact absurd (by rw [← h1]; rfl) (decL_no45 m)
  · rename_i h0
    constructor
    · intro h
      split at h
      · rename_i m hm
        cases h
        obtain ⟨e1, e2⟩ := (rdP_iff l m).1 hm
        rw [decI_pos]
        exact ⟨e1, by omega⟩
      · cases h
    · rintro ⟨h1, h2⟩
      by_cases hn : n < 0
      · obtain ⟨m, rfl⟩ : ∃ m : Nat, n = -((m + 1 : Nat) : Int) := ⟨n.natAbs - 1, by omega⟩
        rw [decI_neg (m + 1) (by omega)] at h1
        rw [h1] at h0
        simp at h0
      · obtain ⟨m, rfl⟩ : ∃ m : Nat, n = m := ⟨n.natAbs, by omega⟩
        rw [decI_pos] at h1
        rw [(rdP_iff l m).2 ⟨h1, by omega⟩]
theorem rd_bd {l : List UInt8} {n : Int} (h : rd l = some n) : -10000000000000 < n ∧ n < 10000000000000 := by
  have := ((rd_iff l n).1 h).2; omega
theorem rd_decI {n : Int} (h : n.natAbs < 10000000000000) : rd (decI n) = some n := (rd_iff _ n).2 ⟨rfl, h⟩
/-! ### Lists -/
def rdV (l : List UInt8) : Int := (rd l).getD 0
def rdB (l : List UInt8) : Bool := (rd l).isSome
def rdL (ps : List (List UInt8)) : List Int := ps.map rdV
def parsOk (l : List UInt8) : Bool := (spl 44 l).all rdB && seqOk (rdL (spl 44 l))
/-- The list whose text it is. -/
def pars (l : List UInt8) : List Int × Bool := if l = [46] then ([], true) else if parsOk l then (rdL (spl 44 l), true) else ([], false)
theorem rdB_of {l : List UInt8} (h : rdB l = true) : rd l = some (rdV l) := by
  unfold rdB at h; unfold rdV
  cases hr : rd l with
  | none => rw [hr] at h; cases h
  | some n => rfl
theorem decL_no (n : Nat) {b : UInt8} (hb : dgB b = false) : b ∉ decL n := fun h => by
  have := List.all_eq_true.1 (decL_dig n) b h
  rw [hb] at this; cases this
theorem decI_no (n : Int) {b : UInt8} (hb : dgB b = false) (h45 : b ≠ 45) : b ∉ decI n := by
  unfold decI
  split
  · rw [List.mem_cons, not_or]; exact ⟨h45, decL_no _ hb⟩
  · exact decL_no _ hb
theorem pars_ok {l : List UInt8} {xs : List Int} (h : pars l = (xs, true)) : fmtL xs = l ∧ seqOk xs = true := by
  unfold pars at h
  split at h
  · rename_i hl
    cases h
    exact ⟨by rw [hl]; rfl, rfl⟩
  · split at h
    · rename_i hl hp
      cases h
      simp only [parsOk, Bool.and_eq_true] at hp
      refine ⟨?_, hp.2⟩
      have hne : (rdL (spl 44 l)).length ≠ 0 := by unfold rdL; rw [List.length_map]; have := (spl_len 44 l).2; omega
      unfold fmtL
      rw [if_neg hne]
      unfold rdL
      rw [List.map_map]
      have e : (spl 44 l).map (decI ∘ rdV) = spl 44 l := by
        conv => rhs; rw [← List.map_id (spl 44 l)]
        exact List.map_congr_left fun p hp' => ((rd_iff p _).1 (rdB_of (List.all_eq_true.1 hp.1 p hp'))).1.symm
      rw [e, spl_join]
    · cases h
theorem pars_fmt {xs : List Int} (h : seqOk xs = true) : pars (fmtL xs) = (xs, true) := by
  by_cases h0 : xs.length = 0
  · have := List.eq_nil_of_length_eq_zero h0
    subst this
    rfl
  · have e : fmtL xs = Lib.join (xs.map decI) [44] := by unfold fmtL; rw [if_neg h0]
    have hn : ∀ p ∈ xs.map decI, (44 : UInt8) ∉ p := fun p hp => by
      obtain ⟨v, _, rfl⟩ := List.mem_map.1 hp
      exact decI_no v (by decide) (by decide)
    have hs : spl 44 (fmtL xs) = xs.map decI := by rw [e]; exact spl_of_join (by intro hh; exact h0 (by simpa using congrArg List.length hh)) hn
    have hr : ∀ v ∈ xs, rd (decI v) = some v := fun v hv => rd_decI (by have := seqOk_mem h v hv; omega)
    have hL : rdL (spl 44 (fmtL xs)) = xs := by
      rw [hs]; unfold rdL; rw [List.map_map]
      conv => rhs; rw [← List.map_id xs]
      exact List.map_congr_left fun v hv => by show rdV (decI v) = v; unfold rdV; rw [hr v hv]; rfl
    have hA : (spl 44 (fmtL xs)).all rdB = true := by
      rw [hs, List.all_eq_true]
      intro p hp
      obtain ⟨v, hv, rfl⟩ := List.mem_map.1 hp
      unfold rdB; rw [hr v hv]; rfl
    unfold pars
    rw [if_neg, if_pos (by simp only [parsOk, hA, hL, h, Bool.and_self]), hL]
    intro hd
    have h1 : spl 44 (fmtL xs) = [[46]] := by rw [hd]; rfl
    rw [h1] at hA
    exact absurd hA (by decide)
theorem pars_no {l : List UInt8} (h : (pars l).2 = false) : pars l = ([], false) := by
  unfold pars at h ⊢
  split at h
  · cases h
  · split at h
    · cases h
    · rename_i a b; rw [if_neg a, if_neg b]
theorem pars_len (l : List UInt8) : (pars l).1.length ≤ 1000 := by
  cases hb : (pars l).2 with
  | false => rw [pars_no hb]; simp
  | true => exact seqOk_len (pars_ok (l := l) (by rw [← hb])).2
/-! ### Modulators -/
def modT : List UInt8 := [109, 111, 100]
def fmtM (l s : Int) (cs : List Int) : List UInt8 := modT ++ [32] ++ decI l ++ [32] ++ decI s ++ [32] ++ fmtL cs
structure Md where
  levels : Int
  step : Int
  coefs : List Int
  ok : Bool
def noMd : Md := ⟨0, 0, [], false⟩
def parmW (a b c d : List UInt8) : Md :=
  if decide (a = modT) && rdB b && rdB c && (pars d).2 && modOk (rdV b) (rdV c) (pars d).1 then ⟨rdV b, rdV c, (pars d).1, true⟩ else noMd
def parm4 : List (List UInt8) → Md
  | [a, b, c, d] => parmW a b c d
  | _ => noMd
/-- The modulator whose text it is. -/
def parm (l : List UInt8) : Md := parm4 (spl 32 l)
theorem spl_four {l a b c d : List UInt8} (h : spl 32 l = [a, b, c, d]) : l = a ++ [32] ++ b ++ [32] ++ c ++ [32] ++ d := by
  rw [← spl_join 32 l, h, join_two, join_two, join_two, Lib.join_one]; simp [List.append_assoc]
theorem fmtL_no {xs : List Int} {b : UInt8} (hb : dgB b = false) (h1 : b ≠ 45) (h2 : b ≠ 44) (h3 : b ≠ 46) : b ∉ fmtL xs := by
  unfold fmtL
  split
  · simpa using h3
  · cases xs with
    | nil => simp [Lib.join_nil]
    | cons x r =>
      rw [List.map_cons, Lib.join_cons]
      intro h
      rcases List.mem_append.1 h with h | h
      · exact decI_no x hb h1 h
      · simp only [Lib.joinTail, List.mem_flatten, List.mem_map] at h
        obtain ⟨q, ⟨p, ⟨v, _, rfl⟩, rfl⟩, hq⟩ := h
        rcases List.mem_append.1 hq with hq | hq
        · exact h2 (by simpa using hq)
        · exact decI_no v hb h1 hq
theorem spl_fmtM (l s : Int) (cs : List Int) : spl 32 (fmtM l s cs) = [modT, decI l, decI s, fmtL cs] := by
  have e : fmtM l s cs = Lib.join [modT, decI l, decI s, fmtL cs] [32] := by
    rw [join_two, join_two, join_two, Lib.join_one]; simp [fmtM, List.append_assoc]
  rw [e]
  refine spl_of_join (by simp) fun p hp => ?_
  simp only [List.mem_cons, List.mem_nil_iff, or_false] at hp
  rcases hp with rfl | rfl | rfl | rfl
  · decide
  · exact decI_no _ (by decide) (by decide)
  · exact decI_no _ (by decide) (by decide)
  · exact fmtL_no (by decide) (by decide) (by decide) (by decide)
theorem modOk_seq {l s : Int} {cs : List Int} (h : modOk l s cs = true) : seqOk cs = true := by
  obtain ⟨a, b, c, d⟩ := mod_parts h
  exact seqOk_of (fun x hx => by have := a x hx; omega) (by omega)
/-- The reference's own test. -/
def parmT (l : List UInt8) (x s : Int) (cs : List Int) : Bool := modOk x s cs && decide (fmtM x s cs = l)
theorem parm_spec {l a b c d : List UInt8} (h : spl 32 l = [a, b, c, d]) : parm l = if parmT l (rdV b) (rdV c) (pars d).1 then ⟨rdV b, rdV c, (pars d).1, true⟩ else noMd := by
  unfold parm
  rw [h]
  show parmW a b c d = _
  unfold parmW
  have key : (decide (a = modT) && rdB b && rdB c && (pars d).2 && modOk (rdV b) (rdV c) (pars d).1) = parmT l (rdV b) (rdV c) (pars d).1 := by
    rw [Bool.eq_iff_iff]
    simp only [parmT, Bool.and_eq_true, decide_eq_true_eq]
    constructor
    · rintro ⟨⟨⟨⟨h1, h2⟩, h3⟩, h4⟩, h5⟩
      refine ⟨h5, ?_⟩
      have e2 := ((rd_iff b _).1 (rdB_of h2)).1
      have e3 := ((rd_iff c _).1 (rdB_of h3)).1
      have e4 := (pars_ok (l := d) (xs := (pars d).1) (by rw [← h4])).1
      rw [spl_four h]
      unfold fmtM
      rw [e4, ← e2, ← e3, ← h1]
    · rintro ⟨h5, h6⟩
      have hs := spl_fmtM (rdV b) (rdV c) (pars d).1
      rw [h6, h] at hs
      injection hs with q1 hs
      injection hs with q2 hs
      injection hs with q3 hs
      injection hs with q4 _
      obtain ⟨m1, m2, m3, m4⟩ := mod_parts h5
      obtain ⟨k1, k2, k3, k4⟩ := quant_parts m2
      have p1 : rdB b = true := by unfold rdB; rw [q2, rd_decI (by omega)]; rfl
      have p2 : rdB c = true := by unfold rdB; rw [q3, rd_decI (by omega)]; rfl
      have p3 : (pars d).2 = true := by rw [q4, pars_fmt (modOk_seq h5)]
      exact ⟨⟨⟨⟨q1, p1⟩, p2⟩, p3⟩, h5⟩
  rw [key]
theorem parm_few {l : List UInt8} (h : (spl 32 l).length ≠ 4) : parm l = noMd := by
  unfold parm parm4
  split
  · rename_i hs; rw [hs] at h; exact absurd rfl h
  · rfl
theorem four_of {α : Type} {l : List α} (h : l.length = 4) : ∃ a b c d, l = [a, b, c, d] := by
  match l, h with
  | [a, b, c, d], _ => exact ⟨a, b, c, d, rfl⟩
theorem parm_no {l : List UInt8} (h : (parm l).ok = false) : parm l = noMd := by
  by_cases h4 : (spl 32 l).length = 4
  · obtain ⟨a, b, c, d, e⟩ := four_of h4
    rw [parm_spec e] at h ⊢
    split at h
    · cases h
    · rename_i hc; rw [if_neg hc]
  · exact parm_few h4
theorem parm_ok {l : List UInt8} (h : (parm l).ok = true) : modOk (parm l).levels (parm l).step (parm l).coefs = true ∧ fmtM (parm l).levels (parm l).step (parm l).coefs = l := by
  by_cases h4 : (spl 32 l).length = 4
  · obtain ⟨a, b, c, d, e⟩ := four_of h4
    rw [parm_spec e] at h ⊢
    split at h
    · rename_i hc
      rw [if_pos hc]
      simpa [parmT] using hc
    · cases h
  · rw [parm_few h4] at h; cases h
theorem parm_fmt {x s : Int} {cs : List Int} (h : modOk x s cs = true) : parm (fmtM x s cs) = ⟨x, s, cs, true⟩ := by
  obtain ⟨m1, m2, m3, m4⟩ := mod_parts h
  obtain ⟨k1, k2, k3, k4⟩ := quant_parts m2
  have e1 : rdV (decI x) = x := by unfold rdV; rw [rd_decI (by omega)]; rfl
  have e2 : rdV (decI s) = s := by unfold rdV; rw [rd_decI (by omega)]; rfl
  have e3 : (pars (fmtL cs)).1 = cs := by rw [pars_fmt (modOk_seq h)]
  rw [parm_spec (spl_fmtM x s cs), e1, e2, e3, if_pos (by simp [parmT, h])]
theorem parm_len (l : List UInt8) : (parm l).coefs.length ≤ 6 := by
  cases h : (parm l).ok with
  | false => rw [parm_no h]; simp [noMd]
  | true => exact (mod_parts (parm_ok h).1).2.2.2
end Go.Proofs.YtgkijkenbjjnmaaGreatDoor
