/- What a line does to a bench, in plain words: questions, the executed line, a script. Nothing of the program. -/
import Derived.Test.YtgkijkenbjjnmaaGreatDoorBench2
import Derived.Test.YtgkijkenbjjnmaaGreatDoorBenIs
import Derived.Test.YtgkijkenbjjnmaaGreatDoorPTxt
import Derived.Test.YtgkijkenbjjnmaaGreatDoorFmtM
import Derived.Test.YtgkijkenbjjnmaaGreatDoorArgB
namespace Go.Proofs.YtgkijkenbjjnmaaGreatDoor
open Go.RowKit
set_option linter.unusedVariables false
set_option linter.unusedSimpArgs false
def tShape : List UInt8 := [115, 104, 97, 112, 101]
def tMemory : List UInt8 := [109, 101, 109, 111, 114, 121]
def tOutput : List UInt8 := [111, 117, 116, 112, 117, 116]
def tErrors : List UInt8 := [101, 114, 114, 111, 114, 115]
def tInput : List UInt8 := [105, 110, 112, 117, 116]
def tSafe : List UInt8 := [115, 97, 102, 101]
def tSum : List UInt8 := [115, 117, 109]
def tPower : List UInt8 := [112, 111, 119, 101, 114]
def tBits : List UInt8 := [98, 105, 116, 115]
def tRun : List UInt8 := [114, 117, 110]
def tClear : List UInt8 := [99, 108, 101, 97, 114]
def tIn : List UInt8 := [105, 110]
def tMore : List UInt8 := [109, 111, 114, 101]
def noT : List UInt8 := [110, 111]
def okT : List UInt8 := [111, 107]
/-- The numbers of levels. -/
def bitsW (l s : Int) (ys : List Int) : List Int × Bool := if ys.all (fun v => decide (levW l s (idxN l s v : Nat) = v)) then (ys.map fun v => ((idxN l s v : Nat) : Int), true) else ([], false)
theorem bitsW_no {l s : Int} {ys : List Int} {k : Nat} (hk : k < ys.length) (h : levW l s (idxN l s ys[k] : Nat) ≠ ys[k]) : bitsW l s ys = ([], false) := by
  have : ys.all (fun v => decide (levW l s (idxN l s v : Nat) = v)) = false := by
    rw [List.all_eq_false]; exact ⟨_, List.getElem_mem hk, by simpa using h⟩
  unfold bitsW; rw [this]; rfl
theorem bitsW_yes {l s : Int} {ys : List Int} (h : ∀ k (hk : k < ys.length), levW l s (idxN l s ys[k] : Nat) = ys[k]) : bitsW l s ys = (ys.map fun v => ((idxN l s v : Nat) : Int), true) := by
  have : ys.all (fun v => decide (levW l s (idxN l s v : Nat) = v)) = true := by
    rw [List.all_eq_true]; intro v hv
    obtain ⟨k, hk, rfl⟩ := List.getElem_of_mem hv
    simpa using h k hk
  unfold bitsW; rw [this]; rfl
theorem bitsW_seq {l s : Int} {ys : List Int} (hq : quantOk l s = true) (hs : seqOk ys = true) : seqOk (bitsW l s ys).1 = true ∧ (bitsW l s ys).1.length ≤ 1000 := by
  have hl := seqOk_len hs
  have hp := quant_parts hq
  unfold bitsW
  split
  · refine ⟨seqOk_of (fun x hx => ?_) (by simpa using hl), by simpa using hl⟩
    obtain ⟨v, _, rfl⟩ := List.mem_map.1 hx
    have := idxN_lt hq v
    omega
  · exact ⟨rfl, by simp⟩
def askT (X : Be) (l : List UInt8) : Option (List UInt8) :=
  if l = tShape then some (fmtL (1 :: X.coefs)) else
  if l = tMemory then some (fmtL X.memory) else
  if l = tOutput then some (fmtL X.output) else
  if l = tErrors then some (fmtL X.errors) else
  if l = tInput then some (fmtL X.input) else
  if l = tSafe then some (decI (safeW X.levels X.step X.coefs)) else
  if l = tSum then some (decI (seqSum X.output)) else
  if l = tPower then (if (power X.errors).2 then some (decI (power X.errors).1) else none) else
  if l = tBits then (if (bitsW X.levels X.step X.output).2 then some (fmtL (bitsW X.levels X.step X.output).1) else none) else none
theorem decI_ne (n : Int) : decI n ≠ [] := by
  unfold decI; split
  · simp
  · exact decL_ne _
theorem join_ne {x : List UInt8} {r : List (List UInt8)} (h : x ≠ []) : Lib.join (x :: r) [44] ≠ [] := by
  cases r with
  | nil => rw [Lib.join_one]; exact h
  | cons y r => rw [join_two]; simp
theorem fmtL_ne (xs : List Int) : fmtL xs ≠ [] := by
  unfold fmtL
  split
  · simp
  · cases xs with
    | nil => simp at *
    | cons x r => exact join_ne (decI_ne x)
theorem ask_ne {X : Be} {l t : List UInt8} (h : askT X l = some t) : t ≠ [] := by
  unfold askT at h
  repeat' (split at h)
  all_goals first | cases h | skip
  all_goals first | exact fmtL_ne _ | exact decI_ne _ | skip
def askWords : List (List UInt8) := [tShape, tMemory, tOutput, tErrors, tInput, tSafe, tSum, tPower, tBits]
theorem ask_word {X : Be} {l : List UInt8} (h : l ∉ askWords) : askT X l = none := by
  simp only [askWords, List.mem_cons, not_or, List.not_mem_nil, not_false_eq_true, and_true] at h
  obtain ⟨h1, h2, h3, h4, h5, h6, h7, h8, h9⟩ := h
  unfold askT
  rw [if_neg h1, if_neg h2, if_neg h3, if_neg h4, if_neg h5, if_neg h6, if_neg h7, if_neg h8, if_neg h9]
theorem ask_mem {X : Be} {l t : List UInt8} (h : askT X l = some t) : l ∈ askWords := by
  by_cases q : l ∈ askWords
  · exact q
  · rw [ask_word q] at h; cases h
/-- A line is cut at its first space. -/
def cutW (l : List UInt8) : List UInt8 := l.takeWhile (· != 32)
def cutT (l : List UInt8) : List UInt8 := (l.dropWhile (· != 32)).drop 1
theorem cut_app {a r : List UInt8} (h : (32 : UInt8) ∉ a) : cutW (a ++ 32 :: r) = a ∧ cutT (a ++ 32 :: r) = r := by
  have hp : ∀ x ∈ a, (x != 32) = true := fun x hx => by simp; intro e; subst e; exact h hx
  unfold cutW cutT
  rw [List.takeWhile_append_of_pos hp, List.dropWhile_append_of_pos hp]
  simp
theorem cut_none {l : List UInt8} (h : (32 : UInt8) ∉ l) : cutW l = l ∧ cutT l = [] := by
  have hp : ∀ x ∈ l, (x != 32) = true := fun x hx => by simp; intro e; subst e; exact h hx
  unfold cutW cutT
  have e1 : l.takeWhile (· != 32) = l := by
    have := List.takeWhile_append_of_pos (l₂ := []) hp; simpa using this
  have e2 : l.dropWhile (· != 32) = [] := by
    have := List.dropWhile_append_of_pos (l₂ := []) hp; simpa using this
  rw [e1, e2]; simp
theorem cut_cases (l : List UInt8) : ((32 : UInt8) ∉ l ∧ spl 32 l = [l] ∧ cutW l = l ∧ cutT l = []) ∨ ∃ a r, l = a ++ 32 :: r ∧ (32 : UInt8) ∉ a ∧ spl 32 l = a :: spl 32 r ∧ cutW l = a ∧ cutT l = r := by
  by_cases h : (32 : UInt8) ∈ l
  · obtain ⟨a, r, rfl, ha⟩ := List.eq_append_cons_of_mem h
    exact .inr ⟨a, r, rfl, ha, spl_hit r ha, (cut_app ha).1, (cut_app ha).2⟩
  · exact .inl ⟨h, spl_none h, (cut_none h).1, (cut_none h).2⟩
theorem pars_sp {t : List UInt8} (h : (32 : UInt8) ∈ t) : pars t = ([], false) := by
  rcases Bool.eq_false_or_eq_true (pars t).2 with hb | hb
  · have := (pars_ok (xs := (pars t).1) (l := t) (by rw [← hb])).1
    rw [← this] at h
    exact absurd h (fmtL_no (by decide) (by decide) (by decide) (by decide))
  · exact pars_no hb
theorem pars_nil : pars [] = ([], false) := by decide
/-- A line that has not just two words feeds nothing. -/
theorem pars_cut {l : List UInt8} (h : (spl 32 l).length ≠ 2) : pars (cutT l) = ([], false) := by
  rcases cut_cases l with ⟨_, _, _, e⟩ | ⟨a, r, hl, ha, hs, _, e⟩
  · rw [e]; exact pars_nil
  · rw [e]
    by_cases hr : (32 : UInt8) ∈ r
    · exact pars_sp hr
    · rw [hs, spl_none hr] at h; simp at h
theorem cut_two {l a b : List UInt8} (h : spl 32 l = [a, b]) : cutW l = a ∧ cutT l = b := by
  rcases cut_cases l with ⟨_, e, _, _⟩ | ⟨a', r, hl, ha, hs, e1, e2⟩
  · rw [e] at h; simp at h
  · rw [hs] at h
    injection h with h1 h2
    have := spl_join 32 r
    rw [h2, Lib.join_one] at this
    exact ⟨e1.trans h1, e2.trans this.symm⟩
theorem spl_head (l : List UInt8) : ∃ r, spl 32 l = cutW l :: r := by
  rcases cut_cases l with ⟨_, e, e2, _⟩ | ⟨a', r, hl, ha, hs, e1, e2⟩
  · exact ⟨[], by rw [e, e2]⟩
  · exact ⟨_, by rw [hs, e1]⟩
theorem parm_word {l : List UInt8} (h : cutW l ≠ modT) : (parm l).ok = false := by
  rcases Bool.eq_false_or_eq_true (parm l).ok with hb | hb
  · exfalso
    have := (parm_ok hb).2
    have e : fmtM (parm l).levels (parm l).step (parm l).coefs = modT ++ 32 :: (decI (parm l).levels ++ [32] ++ decI (parm l).step ++ [32] ++ fmtL (parm l).coefs) := by
      simp [fmtM, List.append_assoc]
    rw [e] at this
    rw [← this, (cut_app (by decide)).1] at h
    exact h rfl
  · exact hb
def Be.ok (X : Be) : Bool := benchOk X.levels X.step X.coefs X.memory X.input X.output X.errors
def zers (n : Nat) : List Int := List.replicate n 0
def setMod (X : Be) (m : Md) : Be := { X with levels := m.levels, step := m.step, coefs := m.coefs, memory := zers m.coefs.length }
def fedIn (X : Be) (y : List Int) : Be := { X with input := y, output := [], errors := [] }
def fedMore (X : Be) (y : List Int) : Be := { X with input := X.input ++ y }
def runX (X : Be) : RMd := runM X.levels X.step X.coefs X.memory X.input
def runBe (X : Be) : Be := { X with memory := (runX X).m, input := [], output := (runX X).y, errors := (runX X).e }
def clearBe (X : Be) : Be := { X with memory := zers X.coefs.length }
/-- What a line that is neither a modulator's text nor food does. -/
def execR (X : Be) (l : List UInt8) : Be × List UInt8 :=
  if l = tRun then (if (runX X).ok then (runBe X, fmtL (runX X).y) else (X, noT))
  else if l = tClear then (clearBe X, okT)
  else (X, (askT X l).getD noT)
def execF (X : Be) (l : List UInt8) : Be × List UInt8 :=
  if cutW l = tIn then (if (pars (cutT l)).2 then (fedIn X (pars (cutT l)).1, okT) else (X, noT))
  else if cutW l = tMore then (if (pars (cutT l)).2 && seqOk (X.input ++ (pars (cutT l)).1) then (fedMore X (pars (cutT l)).1, okT) else (X, noT))
  else execR X l
def exec (X : Be) (l : List UInt8) : Be × List UInt8 :=
  if X.ok = false then (X, noT)
  else if (parm l).ok then (setMod X (parm l), okT)
  else execF X l
/-- A question is answered, whatever else is asked first. -/
theorem exec_ask {X : Be} {l t : List UInt8} (hX : X.ok = true) (h : askT X l = some t) : exec X l = (X, t) := by
  have hm := ask_mem h
  have h32 : (32 : UInt8) ∉ l ∧ l ≠ modT ∧ l ≠ tIn ∧ l ≠ tMore ∧ l ≠ tRun ∧ l ≠ tClear := by
    simp only [askWords, List.mem_cons, List.not_mem_nil, or_false] at hm
    rcases hm with rfl | rfl | rfl | rfl | rfl | rfl | rfl | rfl | rfl <;> decide
  obtain ⟨h1, h2, h3, h4, h5, h6⟩ := h32
  have hc := (cut_none h1).1
  unfold exec execF execR
  rw [hX, parm_word (by rw [hc]; exact h2), if_neg (by decide), if_neg (by decide), hc, if_neg h3, if_neg h4, if_neg h5, if_neg h6, h]
  rfl
theorem exec_bad {X : Be} {l : List UInt8} (hX : X.ok = false) : exec X l = (X, noT) := by unfold exec; rw [if_pos hX]
theorem exec_mod {X : Be} {l : List UInt8} (hX : X.ok = true) (h : (parm l).ok = true) : exec X l = (setMod X (parm l), okT) := by
  unfold exec; rw [hX, if_neg (by decide), if_pos h]
theorem exec_food {X : Be} {l : List UInt8} (hX : X.ok = true) (h : (parm l).ok = false) : exec X l = execF X l := by
  unfold exec; rw [hX, if_neg (by decide), h, if_neg (by decide)]
theorem modT_ne : modT ≠ tIn ∧ modT ≠ tMore ∧ modT ≠ tRun ∧ modT ≠ tClear := by decide
theorem cutW_run {l : List UInt8} (h : l = tRun) : cutW l = tRun := by subst h; decide
theorem cutW_clear {l : List UInt8} (h : l = tClear) : cutW l = tClear := by subst h; decide
/-- A line that begins with 'mod' and is no modulator's text. -/
theorem exec_modNo {X : Be} {l : List UInt8} (hX : X.ok = true) (ha : askT X l = none) (hw : cutW l = modT) (h : (parm l).ok = false) : exec X l = (X, noT) := by
  rw [exec_food hX h]
  unfold execF execR
  rw [hw, if_neg modT_ne.1, if_neg modT_ne.2.1, if_neg (fun e => modT_ne.2.2.1 (hw.symm.trans (cutW_run e))), if_neg (fun e => modT_ne.2.2.2 (hw.symm.trans (cutW_clear e))), ha]
  rfl
theorem exec_in {X : Be} {l t : List UInt8} (hX : X.ok = true) (h : spl 32 l = [tIn, t]) : exec X l = if (pars t).2 then (fedIn X (pars t).1, okT) else (X, noT) := by
  obtain ⟨h1, h2⟩ := cut_two h
  rw [exec_food hX (parm_word (by rw [h1]; decide))]
  unfold execF
  rw [if_pos h1, h2]
theorem exec_more {X : Be} {l t : List UInt8} (hX : X.ok = true) (h : spl 32 l = [tMore, t]) : exec X l = if (pars t).2 && seqOk (X.input ++ (pars t).1) then (fedMore X (pars t).1, okT) else (X, noT) := by
  obtain ⟨h1, h2⟩ := cut_two h
  rw [exec_food hX (parm_word (by rw [h1]; decide))]
  unfold execF
  rw [if_neg (by rw [h1]; decide), if_pos h1, h2]
/-- All other lines. -/
theorem exec_rest {X : Be} {l : List UInt8} (hX : X.ok = true) (hw : cutW l ≠ modT) (h : (spl 32 l).length ≠ 2 ∨ (cutW l ≠ tIn ∧ cutW l ≠ tMore)) (ha : askT X l = none) : exec X l = if l = tClear then (clearBe X, okT) else if l = tRun then (if (runX X).ok then (runBe X, fmtL (runX X).y) else (X, noT)) else (X, noT) := by
  rw [exec_food hX (parm_word hw)]
  have hrc : tRun ≠ tClear := by decide
  have hR : execR X l = if l = tClear then (clearBe X, okT) else if l = tRun then (if (runX X).ok then (runBe X, fmtL (runX X).y) else (X, noT)) else (X, noT) := by
    unfold execR
    by_cases h1 : l = tRun
    · subst h1; rw [if_pos rfl, if_neg hrc, if_pos rfl]
    · rw [if_neg h1]
      by_cases h2 : l = tClear
      · rw [if_pos h2, if_pos h2]
      · rw [if_neg h2, if_neg h2, if_neg h1, ha]; rfl
  by_cases hi : cutW l = tIn
  · have h2 : (spl 32 l).length ≠ 2 := by
      rcases h with h | h
      · exact h
      · exact absurd hi h.1
    unfold execF
    rw [if_pos hi, pars_cut h2, if_neg (fun e => absurd (hi.symm.trans (cutW_clear e)) (by decide)), if_neg (fun e => absurd (hi.symm.trans (cutW_run e)) (by decide))]
    rfl
  · by_cases hm : cutW l = tMore
    · have h2 : (spl 32 l).length ≠ 2 := by
        rcases h with h | h
        · exact h
        · exact absurd hm h.2
      unfold execF
      rw [if_neg hi, if_pos hm, pars_cut h2, if_neg (fun e => absurd (hm.symm.trans (cutW_clear e)) (by decide)), if_neg (fun e => absurd (hm.symm.trans (cutW_run e)) (by decide))]
      rfl
    · unfold execF
      rw [if_neg hi, if_neg hm, hR]
theorem ok_parts {X : Be} (h : X.ok = true) : memOk X.levels X.step X.coefs X.memory = true ∧ seqOk X.input = true ∧ seqOk X.output = true ∧ seqOk X.errors = true := by
  simpa [Be.ok, benchOk, and_assoc] using h
theorem ok_of {X : Be} (h1 : memOk X.levels X.step X.coefs X.memory = true) (h2 : seqOk X.input = true) (h3 : seqOk X.output = true) (h4 : seqOk X.errors = true) : X.ok = true := by
  simp [Be.ok, benchOk, h1, h2, h3, h4]
theorem ok_lens {X : Be} (h : X.ok = true) : X.coefs.length ≤ 6 ∧ X.memory.length ≤ 6 ∧ X.input.length ≤ 1000 ∧ X.output.length ≤ 1000 ∧ X.errors.length ≤ 1000 := by
  obtain ⟨h1, h2, h3, h4⟩ := ok_parts h
  have m := mem_parts h1
  have n := mod_parts m.1
  exact ⟨n.2.2.2, by rw [m.2.1]; exact n.2.2.2, seqOk_len h2, seqOk_len h3, seqOk_len h4⟩
theorem zers_ok {n : Nat} (h : n ≤ 1000) : seqOk (zers n) = true := seqOk_of (fun x hx => by rw [List.eq_of_mem_replicate hx]; omega) (by simpa [zers] using h)
theorem seq_nil : seqOk [] = true := by decide
theorem pars_seq {l : List UInt8} (h : (pars l).2 = true) : seqOk (pars l).1 = true := (pars_ok (l := l) (xs := (pars l).1) (by rw [← h])).2
theorem run_parts {X : Be} (h : (runX X).ok = true) : runsOk X.levels X.step X.coefs X.memory X.input = true ∧ runX X = ⟨runY X.levels X.step X.coefs X.memory X.input, runE X.levels X.step X.coefs X.memory X.input, memTo X.levels X.step X.coefs X.memory X.input X.input.length, true⟩ := by
  rcases Bool.eq_false_or_eq_true (runsOk X.levels X.step X.coefs X.memory X.input) with hb | hb
  · exact ⟨hb, runM_yes hb⟩
  · unfold runX at h; rw [runM_no hb] at h; cases h
theorem runY_seq {l s : Int} {cs mem xs : List Int} (h : runsOk l s cs mem xs = true) : seqOk (runY l s cs mem xs) = true := by
  obtain ⟨h1, h2, h3⟩ := runsOk_parts h
  have hq := (mod_parts (mem_parts h1).1).2.1
  refine seqOk_of (fun x hx => ?_) (by rw [runY_length]; exact seqOk_len h2)
  unfold runY lst at hx
  obtain ⟨k, _, rfl⟩ := List.mem_map.1 hx
  have := quant_bd hq (modV cs (memTo l s cs mem xs k) (xs.getD k 0))
  have e : outY l s cs mem xs k = quant l s (modV cs (memTo l s cs mem xs k) (xs.getD k 0)) := rfl
  rw [e]; omega
theorem runE_seq {l s : Int} {cs mem xs : List Int} (h : runsOk l s cs mem xs = true) : seqOk (runE l s cs mem xs) = true := by
  obtain ⟨h1, h2, h3⟩ := runsOk_parts h
  have := runE_of h3
  unfold seqOk
  rw [this, Bool.true_and]
  rw [runE_length]; simpa using seqOk_len h2
theorem exec_ok {X : Be} {l : List UInt8} (h : X.ok = true) : (exec X l).1.ok = true := by
  obtain ⟨h1, h2, h3, h4⟩ := ok_parts h
  obtain ⟨m1, m2, m3⟩ := mem_parts h1
  rcases Bool.eq_false_or_eq_true (parm l).ok with hm | hm
  · rw [exec_mod h hm]
    have hp := (parm_ok hm).1
    exact ok_of (memOk_of hp (by simp [setMod, zers]) (zers_ok (by have := parm_len l; omega))) h2 h3 h4
  · rw [exec_food h hm]
    unfold execF execR
    repeat' split
    all_goals first | exact h | skip
    · rename_i _ hp
      exact ok_of h1 (pars_seq hp) seq_nil seq_nil
    · rename_i _ _ hp
      rw [Bool.and_eq_true] at hp
      exact ok_of h1 hp.2 h3 h4
    · rename_i _ _ _ hr
      obtain ⟨r1, r2⟩ := run_parts hr
      have p := runsOk_parts r1
      refine ok_of ?_ seq_nil ?_ ?_
      · show memOk _ _ _ (runX X).m = true; rw [r2]; exact memTo_ok h1 _ p.2.2
      · show seqOk (runX X).y = true; rw [r2]; exact runY_seq r1
      · show seqOk (runX X).e = true; rw [r2]; exact runE_seq r1
    · exact ok_of (memOk_of m1 (by simp [clearBe, zers]) (zers_ok (by have := (mod_parts m1).2.2.2; omega))) h2 h3 h4
theorem safe_bd {l s : Int} {cs : List Int} (h : modOk l s cs = true) : -1 ≤ safeW l s cs ∧ safeW l s cs ≤ 17179869184 := by
  obtain ⟨hc, hq, k1, k2⟩ := mod_parts h
  have := ls_bd hq
  have hp := quant_parts hq
  have ha := absTo_bd hc cs.length
  have hm : 0 ≤ s * absTo cs cs.length := Int.mul_nonneg (by omega) ha.1
  unfold safeW
  split <;> omega
theorem seqSum_bd {xs : List Int} (h : seqOk xs = true) : -1099511627776000 ≤ seqSum xs ∧ seqSum xs ≤ 1099511627776000 := by
  have hl := seqOk_len h
  have hb : ∀ x ∈ xs, -1099511627776 ≤ x ∧ x ≤ 1099511627776 := fun x hx => by
    obtain ⟨k, hk, rfl⟩ := List.getElem_of_mem hx
    have := seq_getD h k
    rw [List.getD_eq_getElem?_getD, List.getElem?_eq_getElem hk] at this
    exact this
  have key : ∀ ys : List Int, (∀ x ∈ ys, -1099511627776 ≤ x ∧ x ≤ 1099511627776) → -(1099511627776 * (ys.length : Int)) ≤ ys.sum ∧ ys.sum ≤ 1099511627776 * (ys.length : Int) := by
    intro ys
    induction ys with
    | nil => intro _; simp
    | cons y r ih =>
      intro hy
      have h1 := hy y (by simp)
      have h2 := ih (fun x hx => hy x (by simp [hx]))
      rw [List.sum_cons, List.length_cons]; push_cast; omega
  have := key xs hb
  have e : seqSum xs = xs.sum := by simp [seqSum, h]
  rw [e]; omega
theorem power_bd (xs : List Int) : 0 ≤ (power xs).1 ∧ (power xs).1 ≤ 100000000000000000 := by
  rcases Bool.eq_false_or_eq_true (seqOk xs) with hs | hs
  · by_cases ha : xs.all smallB = true
    · have hl := seqOk_len hs
      have key : ∀ ys : List Int, ys.all smallB = true → 0 ≤ (ys.map sqr).sum ∧ (ys.map sqr).sum ≤ 100000000000000 * (ys.length : Int) := by
        intro ys
        induction ys with
        | nil => intro _; simp
        | cons y r ih =>
          intro hy
          rw [List.all_cons, Bool.and_eq_true] at hy
          have h1 := small_of hy.1
          have h2 := ih hy.2
          have e : sqr y = y * y := rfl
          rw [List.map_cons, List.sum_cons, List.length_cons, e]; push_cast; omega
      have := key xs ha
      have e : power xs = ((xs.map sqr).sum, true) := by simp [power, hs, ha]
      rw [e]
      show 0 ≤ (xs.map sqr).sum ∧ (xs.map sqr).sum ≤ 100000000000000000
      omega
    · have e : power xs = (0, false) := by
        have : xs.all smallB = false := by simpa using ha
        unfold power; rw [hs, this]; rfl
      rw [e]; simp
  · rw [power_noSeq hs]; simp
theorem shape_ok {l s : Int} {cs : List Int} (h : modOk l s cs = true) : seqOk (1 :: cs) = true := by
  obtain ⟨hc, hq, k1, k2⟩ := mod_parts h
  refine seqOk_of (fun x hx => ?_) (by simp; omega)
  rcases List.mem_cons.1 hx with rfl | hx
  · omega
  · have := hc x hx; omega
theorem ask_len {X : Be} {l t : List UInt8} (hX : X.ok = true) (h : askT X l = some t) : t.length ≤ 30000 := by
  obtain ⟨h1, h2, h3, h4⟩ := ok_parts hX
  obtain ⟨m1, m2, m3⟩ := mem_parts h1
  have hs := safe_bd m1
  have hu := seqSum_bd h3
  have hp := power_bd X.errors
  have hb := bitsW_seq (mod_parts m1).2.1 h3
  unfold askT at h
  repeat' (split at h)
  all_goals first | cases h | skip
  all_goals first
    | exact fmtL_le (shape_ok m1)
    | exact fmtL_le m3
    | exact fmtL_le h2
    | exact fmtL_le h3
    | exact fmtL_le h4
    | exact fmtL_le hb.1
    | exact Nat.le_trans (decI_le (by omega) (by omega)) (by omega)
theorem exec_len {X : Be} {l : List UInt8} (hX : X.ok = true) : (exec X l).2.length ≤ 30000 := by
  rcases Bool.eq_false_or_eq_true (parm l).ok with hm | hm
  · rw [exec_mod hX hm]; simp [okT]
  · rw [exec_food hX hm]
    unfold execF execR
    repeat' split
    all_goals first | (simp [okT, noT]; done) | skip
    · rename_i _ _ _ hr
      obtain ⟨r1, r2⟩ := run_parts hr
      show (fmtL (runX X).y).length ≤ 30000
      rw [r2]; exact fmtL_le (runY_seq r1)
    · show ((askT X l).getD noT).length ≤ 30000
      cases ha : askT X l with
      | none => simp [noT]
      | some t => exact ask_len hX ha
/-- A line that is refused, or only asks, leaves the bench as it was. -/
theorem exec_same {X : Be} {l : List UInt8} (h : (exec X l).2 = noT ∨ l ∈ askWords) : (exec X l).1 = X := by
  rcases Bool.eq_false_or_eq_true X.ok with hX | hX
  · rcases h with h | h
    · rcases Bool.eq_false_or_eq_true (parm l).ok with hm | hm
      · rw [exec_mod hX hm] at h; exact absurd (show okT = noT from h) (by decide)
      · rw [exec_food hX hm] at h ⊢
        unfold execF execR at h ⊢
        repeat' split
        all_goals first | rfl | skip
        · simp only [*, if_true] at h; exact absurd h (by decide)
        · simp only [*, if_true, if_false] at h; rw [if_neg (by decide : ¬ tMore = tIn)] at h; exact absurd (show okT = noT from h) (by decide)
        · rename_i h1 h2 h3 h4
          rw [if_neg h1, if_neg h2, if_pos h3, if_pos h4] at h
          exfalso
          have hs : seqOk (runX X).y = true := by
            obtain ⟨r1, r2⟩ := run_parts h4
            rw [r2]; exact runY_seq r1
          have h' : fmtL (runX X).y = noT := h
          have h9 : (110 : UInt8) ∉ fmtL (runX X).y := fmtL_no (by decide) (by decide) (by decide) (by decide)
          rw [h'] at h9; exact absurd h9 (by decide)
        · rename_i h1 h2 h3 h4
          rw [if_neg h1, if_neg h2, if_neg h3, if_pos h4] at h
          exact absurd (show okT = noT from h) (by decide)
    · have h32 : (32 : UInt8) ∉ l ∧ l ≠ modT ∧ l ≠ tIn ∧ l ≠ tMore ∧ l ≠ tRun ∧ l ≠ tClear := by
        simp only [askWords, List.mem_cons, List.not_mem_nil, or_false] at h
        rcases h with rfl | rfl | rfl | rfl | rfl | rfl | rfl | rfl | rfl <;> decide
      obtain ⟨h1, h2, h3, h4, h5, h6⟩ := h32
      have hc := (cut_none h1).1
      unfold exec execF execR
      rw [hX, parm_word (by rw [hc]; exact h2), if_neg (by decide), if_neg (by decide), hc, if_neg h3, if_neg h4, if_neg h5, if_neg h6]
  · rw [exec_bad hX]
theorem exec_ne {X : Be} {l : List UInt8} : (exec X l).2 ≠ [] := by
  unfold exec execF execR
  repeat' split
  all_goals first | (exact (by decide : noT ≠ [])) | (exact (by decide : okT ≠ [])) | exact fmtL_ne _ | skip
  cases ha : askT X l with
  | none => exact (by decide : noT ≠ [])
  | some t => exact ask_ne ha
/-- A script: the bench behind k lines, and the answer to line k. -/
def stB (ls : List (List UInt8)) : Nat → Be
  | 0 => newBe
  | k + 1 => (exec (stB ls k) (ls.getD k [])).1
def anB (ls : List (List UInt8)) (k : Nat) : List UInt8 := (exec (stB ls k) (ls.getD k [])).2
def ansB (ls : List (List UInt8)) : List (List UInt8) := (List.range ls.length).map (anB ls)
def scriptB (l : List UInt8) : List (List UInt8) × Bool := if (spl 10 l).length ≤ 40 then (ansB (spl 10 l), true) else ([], false)
theorem newBe_ok : newBe.ok = true := by decide
theorem stB_ok (ls : List (List UInt8)) : ∀ k, (stB ls k).ok = true
  | 0 => newBe_ok
  | k + 1 => exec_ok (stB_ok ls k)
theorem ansB_take {ls : List (List UInt8)} {k : Nat} (h : k < ls.length) : (ansB ls).take (k + 1) = (ansB ls).take k ++ [anB ls k] := by
  have hl : k < (ansB ls).length := by simpa [ansB] using h
  rw [List.take_succ_eq_append_getElem hl]
  simp [ansB]
theorem ansB_len (ls : List (List UInt8)) : (ansB ls).length = ls.length := by simp [ansB]
theorem ansB_le (ls : List (List UInt8)) : ∀ t ∈ ansB ls, t.length ≤ 30000 := fun t ht => by
  obtain ⟨k, _, rfl⟩ := List.mem_map.1 ht
  exact exec_len (stB_ok ls k)
end Go.Proofs.YtgkijkenbjjnmaaGreatDoor
