/- Contracts of the two ParseSequence. -/
import Derived.Test.YtgkijkenbjjnmaaGreatDoorRdS
import Derived.Test.YtgkijkenbjjnmaaGreatDoorCopy
import Derived.Test.YtgkijkenbjjnmaaGreatDoorMat
namespace Go.Proofs.YtgkijkenbjjnmaaGreatDoor
open Go.RowKit
set_option linter.unusedVariables false
set_option linter.unusedSimpArgs false
theorem ownS_cell {w : World} {B c g : Nat} {ps : List (List UInt8)} (h : OwnS w B (some ⟨g, 0, none⟩) c (ps.map bs)) {k : Nat} (hk : k < ps.length) : w.cell? ⟨g, k, none⟩ = some (.string (bs ps[k])) := by
  obtain ⟨g', e, _, hc⟩ := ownS_head h (by rw [List.length_map]; omega)
  have : g = g' := by injection e with e; injection e
  subst this
  have := hc k (bs ps[k]) (by rw [List.getElem?_map, List.getElem?_eq_getElem hk]; rfl)
  rwa [Nat.zero_add] at this
theorem pars_bad {l : List UInt8} {k : Nat} (h0 : l ≠ [46]) (hk : k < (spl 44 l).length) (h : rdB (spl 44 l)[k] = false) : pars l = ([], false) := by
  have : (spl 44 l).all rdB = false := by rw [List.all_eq_false]; exact ⟨_, List.getElem_mem hk, by simp [h]⟩
  unfold pars; rw [if_neg h0, if_neg]; simp [parsOk, this]
theorem pars_good {l : List UInt8} (h0 : l ≠ [46]) (h : (spl 44 l).all rdB = true) : doneOf (rdL (spl 44 l)) = pars l := by
  unfold pars doneOf parsOk; rw [if_neg h0, h, Bool.true_and]
theorem rdL_get {ps : List (List UInt8)} {k : Nat} (h : k < (rdL ps).length) (hk : k < ps.length) : (rdL ps)[k] = rdV ps[k] := by simp [rdL]
theorem rdL_len (ps : List (List UInt8)) : (rdL ps).length = ps.length := by simp [rdL]
theorem allB_take {ps : List (List UInt8)} {k : Nat} (hk : k < ps.length) (h : (ps.take k).all rdB = true) (hd : rdB ps[k] = true) : (ps.take (k + 1)).all rdB = true := by
  rw [List.take_succ_eq_append_getElem hk, List.all_append, h]; simp [hd]
theorem str_ne (s : ByteArray) (a : List UInt8) (h : s.data.toList ≠ a) : (s.toList == a) = false := by
  rw [ByteArray.toList_eq]; simpa using h
theorem readY {l : List UInt8} (hb : rdB l = true) (hn : l.length ≤ 9223372036854775807) (W : World) : Calls Tryz.prog 90 #[.string (bs l)] W fun e w' => e = .returned (.tuple #[.int .i64 (rdV l), .bool true]) ∧ W = w' :=
  (implRead_any (bs l) W (by rw [bs_size]; exact hn)).mono fun e w' ⟨v, he, hv, hw⟩ => by
    have e1 : (bs l).data.toList = l := by simp [bs]
    rw [e1] at he hv
    rw [hb] at he hv
    rw [he, hv rfl]
    exact ⟨rfl, hw⟩
theorem readN {l : List UInt8} (hb : rdB l = false) (hn : l.length ≤ 9223372036854775807) (W : World) : Calls Tryz.prog 90 #[.string (bs l)] W fun e w' => (∃ v : Int, e = .returned (.tuple #[.int .i64 v, .bool false])) ∧ W = w' :=
  (implRead_any (bs l) W (by rw [bs_size]; exact hn)).mono fun e w' ⟨v, he, hv, hw⟩ => by
    have e1 : (bs l).data.toList = l := by simp [bs]
    rw [e1] at he
    rw [hb] at he
    exact ⟨⟨v, he⟩, hw⟩
theorem specY {l : List UInt8} (hb : rdB l = true) (hn : l.length ≤ 9223372036854775807) (W : World) : Calls Tryz.prog 119 #[.string (bs l)] W fun e w' => e = .returned (.tuple #[.int .i64 (rdV l), .bool true]) ∧ W = w' := by
  have := l7Read_any (bs l) W (by rw [bs_size]; exact hn)
  have e1 : (bs l).data.toList = l := by simp [bs]
  rwa [e1, hb] at this
theorem specN {l : List UInt8} (hb : rdB l = false) (hn : l.length ≤ 9223372036854775807) (W : World) : Calls Tryz.prog 119 #[.string (bs l)] W fun e w' => (∃ v : Int, e = .returned (.tuple #[.int .i64 v, .bool false])) ∧ W = w' := by
  have := l7Read_any (bs l) W (by rw [bs_size]; exact hn)
  have e1 : (bs l).data.toList = l := by simp [bs]
  rw [e1, hb] at this
  exact this.mono fun e w' ⟨he, hw⟩ => ⟨⟨_, he⟩, hw⟩
set_option maxRecDepth 100000 in
set_option maxHeartbeats 1000000 in
theorem implPars_any (s : ByteArray) (w : World) (hs : s.size ≤ 4000000000) : Calls Tryz.prog 47 #[.string s] w (RetLB w (pars s.data.toList)) := by
  by_cases h46 : s.data.toList = [46]
  · have e : s = ⟨#[46]⟩ := by rw [← bs_list s, h46]; rfl
    subst e
    go_enter Tryz.func47, Tryz.ntmps47
    go_wp2
    go_ret2
    exact ⟨none, 0, rfl, own_nil _ _, Below.refl _ _⟩
  · have t0 := str_ne s [46] h46
    have hl := sizeL s
    have hsp := spl_len 44 s.data.toList
    have hcall := fun W => split_any s 44 W (by omega)
    have HG := Lib.hid (pars_good h46)
    have HB := fun k hk h => pars_bad (l := s.data.toList) (k := k) h46 hk h
    have HM : Hid (∀ p ∈ spl 44 s.data.toList, p.length ≤ 9223372036854775807) := fun p hp => by have := (spl_mem hp).2; omega
    obtain ⟨R, hR⟩ : ∃ R, R = pars s.data.toList := ⟨_, rfl⟩
    obtain ⟨ps, hps⟩ : ∃ ps, ps = spl 44 s.data.toList := ⟨_, rfl⟩
    rw [← hR] at HG HB ⊢
    rw [← hps] at HG HB HM hcall hsp
    have HB2 := Lib.hid HB
    have HC := Lib.hid hcall
    have hn1 : ps.length ≤ 5000000000 := by omega
    have hn2 : 1 ≤ ps.length := hsp.2
    have HN : Hid ((ps.map bs).length = ps.length) := by show _ = _; rw [List.length_map]
    clear hR hps HB hcall hl hsp h46
    go_enter Tryz.func47, Tryz.ntmps47
    go_wp2_with fail
    (with_reducible refine (HC.out _).mono ?_)
    rintro e w1 ⟨Ap, cp, rfl, Op, h1⟩
    have hn3 := HN.out
    rw [hn3]
    obtain ⟨gp, rfl, hgl, _⟩ := ownS_head Op (by rw [HN.out]; omega)
    have hgp := (ownS_lt Op _ rfl).1
    have Oq := own_past (own_empty w w.heap.size (Nat.le_refl _)) h1
    have Hb1 := Lib.hid ((((Below.refl _ _).alloc (Nat.le_refl _) _).trans (h1.mono (by simp)) : Below w.heap.size w w1))
    have a01 := apart_two w.heap.size gp (by simp at hgp; omega)
    have OP := Lib.hid Op
    have OQ := Lib.hid Oq
    have A01 := Lib.hid a01
    have z1 : w.heap.size < gp := by simp at hgp; omega
    clear Op Oq a01 h1 hn3 hgp
    go_wp2_with fail
    go_loopw [4, 15] (fun q i wr => ∃ (k : Nat) (Aq : Option Addr) (cq : Nat), k ≤ ps.length ∧ gp < wr.heap.size ∧ i = .int .i64 k ∧ q = .slice Aq k cq ∧ Hid ((ps.take k).all rdB = true) ∧ Hid (Own wr w.heap.size Aq cq ((rdL ps).take k)) ∧ Hid (OwnS wr w.heap.size (some ⟨gp, 0, none⟩) cp (ps.map bs)) ∧ Hid (Apart Aq (some ⟨gp, 0, none⟩)) ∧ Hid (Below w.heap.size w wr)) (fun _ i _ => ps.length - (intOf i).toNat)
    case atStart => exact ⟨0, _, 0, by omega, hgl, rfl, rfl, by show _ = _; simp, OQ.out, by
      obtain ⟨x1, x2⟩ := OP.out
      refine ⟨x1, ?_⟩
      rcases x2 with x2 | ⟨g, cap, cur, hv, hg, r⟩
      · exact .inl x2
      · refine .inr ⟨g, cap, cur, hv, ?_, r⟩
        injection hv with hv; injection hv with hv; injection hv with hv
        omega, A01.out, Hb1.out⟩
    case round =>
      clear OP OQ A01 Hb1 hgl
      obtain ⟨k, Aq, cq, hk, hgl, rfl, rfl, HA, OQ, OP, AP, Hb⟩ := hrel
      by_cases hlt : k < ps.length
      · have hc1 := ownS_cell OP.out hlt
        have hpl := HM.out _ (List.getElem_mem hlt)
        rcases Bool.eq_false_or_eq_true (rdB ps[k]) with hd | hd
        · have HR := Lib.hid (fun W => readY hd hpl W)
          have HA2 := Lib.hid (allB_take hlt HA.out hd)
          have hv : (rdL ps)[k]'(by rw [rdL_len]; exact hlt) = rdV ps[k] := rdL_get _ _
          have hkr : k < (rdL ps).length := by rw [rdL_len]; exact hlt
          have HV := Lib.hid hv
          obtain ⟨v, hvv⟩ : ∃ v, v = rdV ps[k] := ⟨_, rfl⟩
          rw [← hvv] at HR HV
          obtain ⟨p, hp⟩ : ∃ p, p = ps[k] := ⟨_, rfl⟩
          rw [← hp] at HR hc1
          clear hd hpl hv hvv hp
          go_wp2_with fail
          (with_reducible refine (HR.out _).mono ?_)
          rintro e w2 ⟨rfl, rfl⟩
          go_wp2_with (at_builtin; refine app_take rfl (.tmp 26) (.tmp 28) rfl w.heap.size Aq cq k (rdL ps) v hkr HV.out rfl OQ.out rfl (by omega) Hb.out.size ?_)
          intro A1 c1 w3 hO1 hw1 mv
          have OP1 := Lib.hid (ownS_wrote OP.out hw1 (apart_symm AP.out))
          have AP1 := Lib.hid (apart_moved AP.out mv (fun a e => by injection e with e; subst e; exact hgl))
          have hB1 := Lib.hid (Hb.out.trans (below_wrote hw1 Hb.out.size (own_lo OQ.out)))
          have HO1 := Lib.hid hO1
          have hgl1 : gp < w3.heap.size := Nat.lt_of_lt_of_le hgl hw1.size
          clear hO1 hw1 mv OQ OP AP Hb hc1
          go_wp2
          go_roundw
          case rel => exact ⟨k + 1, A1, c1, by omega, hgl1, by go_num, rfl, HA2.out, HO1.out, OP1.out, AP1.out, hB1.out⟩
          case measure => simp [intOf]; omega
        · have HR := Lib.hid (fun W => readN hd hpl W)
          have HE := Lib.hid (HB2.out k hlt hd)
          obtain ⟨p, hp⟩ : ∃ p, p = ps[k] := ⟨_, rfl⟩
          rw [← hp] at HR hc1
          clear hd hpl hp
          go_wp2_with fail
          (with_reducible refine (HR.out _).mono ?_)
          rintro e w2 ⟨⟨v, rfl⟩, rfl⟩
          go_wp2
          go_ret2
          rw [HE.out]
          exact ⟨none, 0, rfl, own_nil _ _, Hb.out⟩
      · obtain rfl : k = ps.length := by omega
        have ha := HA.out
        rw [List.take_length] at ha
        have ho := OQ.out
        rw [List.take_of_length_le (by rw [rdL_len]; exact Nat.le_refl _)] at ho
        have hD := asSequence_own Aq w.heap.size cq (rdL ps) wr ho (by rw [rdL_len]; omega)
        rw [rdL_len, HG.out ha] at hD
        have HD := Lib.hid hD
        clear ha ho hD HG OQ
        go_wp2_with fail
        refine HD.out.mono ?_
        rintro e w2 ⟨A1, c1, rfl, O1, rfl⟩
        have O1' := Lib.hid O1
        clear O1
        go_wp2
        go_ret2
        exact ⟨A1, c1, rfl, O1'.out, Hb.out⟩
set_option maxRecDepth 100000 in
set_option maxHeartbeats 1000000 in
theorem specPars_any (s : ByteArray) (w : World) (hs : s.size ≤ 4000000000) : Calls Tryz.prog 120 #[.string s] w (RetLB w (pars s.data.toList)) := by
  by_cases h46 : s.data.toList = [46]
  · have e : s = ⟨#[46]⟩ := by rw [← bs_list s, h46]; rfl
    subst e
    go_enter Tryz.func120, Tryz.ntmps120
    go_wp2
    go_ret2
    exact ⟨some ⟨w.heap.size, 0, none⟩, 0, rfl, own_empty w _ (Nat.le_refl _), (Below.refl _ _).alloc (Nat.le_refl _) _⟩
  · have t0 := str_ne s [46] h46
    have hl := sizeL s
    have hsp := spl_len 44 s.data.toList
    have hcall : ∀ W, Calls Tryz.prog 69 #[.string s, .int .u8 44] W (RetSS W ((spl 44 s.data.toList).map bs)) := fun W => l7Split_any s 44 W (by omega)
    have HG := Lib.hid (pars_good h46)
    have HB := fun k hk h => pars_bad (l := s.data.toList) (k := k) h46 hk h
    have HM : Hid (∀ p ∈ spl 44 s.data.toList, p.length ≤ 9223372036854775807) := fun p hp => by have := (spl_mem hp).2; omega
    obtain ⟨R, hR⟩ : ∃ R, R = pars s.data.toList := ⟨_, rfl⟩
    obtain ⟨ps, hps⟩ : ∃ ps, ps = spl 44 s.data.toList := ⟨_, rfl⟩
    rw [← hR] at HG HB ⊢
    rw [← hps] at HG HB HM hcall hsp
    have HB2 := Lib.hid HB
    have HC := Lib.hid hcall
    have hn1 : ps.length ≤ 5000000000 := by omega
    have hn2 : 1 ≤ ps.length := hsp.2
    have HN : Hid ((ps.map bs).length = ps.length) := by show _ = _; rw [List.length_map]
    clear hR hps HB hcall hl hsp h46
    go_enter Tryz.func120, Tryz.ntmps120
    go_wp2_with fail
    (with_reducible refine (HC.out _).mono ?_)
    rintro e w1 ⟨Ap, cp, rfl, Op, h1⟩
    have hn3 := HN.out
    rw [hn3]
    obtain ⟨gp, rfl, hgl, _⟩ := ownS_head Op (by rw [HN.out]; omega)
    have hgp := (ownS_lt Op _ rfl).1
    have Oq := own_past (own_empty w w.heap.size (Nat.le_refl _)) h1
    have Hb1 := Lib.hid ((((Below.refl _ _).alloc (Nat.le_refl _) _).trans (h1.mono (by simp)) : Below w.heap.size w w1))
    have a01 := apart_two w.heap.size gp (by simp at hgp; omega)
    have OP := Lib.hid Op
    have OQ := Lib.hid Oq
    have A01 := Lib.hid a01
    have z1 : w.heap.size < gp := by simp at hgp; omega
    clear Op Oq a01 h1 hn3 hgp
    go_wp2_with fail
    go_loopw [4, 16] (fun q i wr => ∃ (k : Nat) (Aq : Option Addr) (cq : Nat), k ≤ ps.length ∧ gp < wr.heap.size ∧ i = .int .i64 k ∧ q = .slice Aq k cq ∧ Hid ((ps.take k).all rdB = true) ∧ Hid (Own wr w.heap.size Aq cq ((rdL ps).take k)) ∧ Hid (OwnS wr w.heap.size (some ⟨gp, 0, none⟩) cp (ps.map bs)) ∧ Hid (Apart Aq (some ⟨gp, 0, none⟩)) ∧ Hid (Below w.heap.size w wr)) (fun _ i _ => ps.length - (intOf i).toNat)
    case atStart => exact ⟨0, _, 0, by omega, hgl, rfl, rfl, by show _ = _; simp, OQ.out, by
      obtain ⟨x1, x2⟩ := OP.out
      refine ⟨x1, ?_⟩
      rcases x2 with x2 | ⟨g, cap, cur, hv, hg, r⟩
      · exact .inl x2
      · refine .inr ⟨g, cap, cur, hv, ?_, r⟩
        injection hv with hv; injection hv with hv; injection hv with hv
        omega, A01.out, Hb1.out⟩
    case round =>
      clear OP OQ A01 Hb1 hgl
      obtain ⟨k, Aq, cq, hk, hgl, rfl, rfl, HA, OQ, OP, AP, Hb⟩ := hrel
      by_cases hlt : k < ps.length
      · have hc1 := ownS_cell OP.out hlt
        have hpl := HM.out _ (List.getElem_mem hlt)
        rcases Bool.eq_false_or_eq_true (rdB ps[k]) with hd | hd
        · have HR := Lib.hid (fun W => specY hd hpl W)
          have HA2 := Lib.hid (allB_take hlt HA.out hd)
          have hv : (rdL ps)[k]'(by rw [rdL_len]; exact hlt) = rdV ps[k] := rdL_get _ _
          have hkr : k < (rdL ps).length := by rw [rdL_len]; exact hlt
          have HV := Lib.hid hv
          obtain ⟨v, hvv⟩ : ∃ v, v = rdV ps[k] := ⟨_, rfl⟩
          rw [← hvv] at HR HV
          obtain ⟨p, hp⟩ : ∃ p, p = ps[k] := ⟨_, rfl⟩
          rw [← hp] at HR hc1
          clear hd hpl hv hvv hp
          go_wp2_with fail
          (with_reducible refine (HR.out _).mono ?_)
          rintro e w2 ⟨rfl, rfl⟩
          go_wp2_with (at_builtin; refine app_take rfl (.tmp 27) (.tmp 29) rfl w.heap.size Aq cq k (rdL ps) v hkr HV.out rfl OQ.out rfl (by omega) Hb.out.size ?_)
          intro A1 c1 w3 hO1 hw1 mv
          have OP1 := Lib.hid (ownS_wrote OP.out hw1 (apart_symm AP.out))
          have AP1 := Lib.hid (apart_moved AP.out mv (fun a e => by injection e with e; subst e; exact hgl))
          have hB1 := Lib.hid (Hb.out.trans (below_wrote hw1 Hb.out.size (own_lo OQ.out)))
          have HO1 := Lib.hid hO1
          have hgl1 : gp < w3.heap.size := Nat.lt_of_lt_of_le hgl hw1.size
          clear hO1 hw1 mv OQ OP AP Hb hc1
          go_wp2
          go_roundw
          case rel => exact ⟨k + 1, A1, c1, by omega, hgl1, by go_num, rfl, HA2.out, HO1.out, OP1.out, AP1.out, hB1.out⟩
          case measure => simp [intOf]; omega
        · have HR := Lib.hid (fun W => specN hd hpl W)
          have HE := Lib.hid (HB2.out k hlt hd)
          obtain ⟨p, hp⟩ : ∃ p, p = ps[k] := ⟨_, rfl⟩
          rw [← hp] at HR hc1
          clear hd hpl hp
          go_wp2_with fail
          (with_reducible refine (HR.out _).mono ?_)
          rintro e w2 ⟨⟨v, rfl⟩, rfl⟩
          go_wp2
          go_ret2
          rw [HE.out]
          exact ⟨none, 0, rfl, own_nil _ _, Hb.out⟩
      · obtain rfl : k = ps.length := by omega
        have ha := HA.out
        rw [List.take_length] at ha
        have ho := OQ.out
        rw [List.take_of_length_le (by rw [rdL_len]; exact Nat.le_refl _)] at ho
        have hD := l1Done_own Aq w.heap.size cq (rdL ps) wr ho (by rw [rdL_len]; omega)
        rw [rdL_len, HG.out ha] at hD
        have HD := Lib.hid hD
        clear ha ho hD HG OQ
        go_wp2_with fail
        refine HD.out.mono ?_
        rintro e w2 ⟨A1, c1, rfl, O1, rfl⟩
        have O1' := Lib.hid O1
        clear O1
        go_wp2
        go_ret2
        exact ⟨A1, c1, rfl, O1'.out, Hb.out⟩
end Go.Proofs.YtgkijkenbjjnmaaGreatDoor
