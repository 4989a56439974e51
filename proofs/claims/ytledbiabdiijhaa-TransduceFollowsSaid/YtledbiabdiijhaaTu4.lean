/-
  ref51.Trace, ref51.Apply.
-/
import Derived.Test.YtledbiabdiijhaaTu3
namespace Go.UtYtledbiabdiijhaa
theorem writS_len {rules : List TR} (hok : ∀ r ∈ rules, chk1 r = 0) {text : List Int} {p : Nat} {i m : Int} (h : IsStep rules text p i m) : (writS rules text p i).length ≤ 16 := by
  rcases h with ⟨rfl, _, _⟩ | ⟨k, r, rfl, hk, _⟩
  · simp [writS]
  · rw [writS_rule hk, List.length_map]
    exact (chk1_ok (hok r (List.mem_of_getElem? hk))).1.2.2.2.2
end Go.UtYtledbiabdiijhaa
namespace Go.Proofs.Ytledbiabdiijhaa
open Go.RowKit Go.UtYtledbiabdiijhaa
set_option maxRecDepth 100000 in
set_option maxHeartbeats 2000000 in
theorem rTrace_any (A At : Option Addr) (c ct : Nat) (rules : List TR) (text : List Int) (w : World) (hR : RulesAt w w.heap.size A rules) (hs : smR rules) (hl : rules.length ≤ c) (hc : c ≤ maxLen)
    (hT : Row w w.heap.size At (ints text)) (htl : text.length ≤ 1000000) (R : List (Int × Int × Int)) (hRes : trR (dataL rules) text 0 = R) :
    Calls Try.prog 24 #[.slice A rules.length c, .slice At text.length ct] w (RetT w R) := by
  have HC := Lib.hid (data_any A c rules w hR hs hl hc)
  have HT := Lib.hid hT
  have HRS := Lib.hid hRes
  have HMO := Lib.hid (data_mat rules)
  have HMI := Lib.hid (data_mid rules)
  have hDL := data_200 rules
  obtain ⟨D, hD⟩ : ∃ D, dataL rules = D := ⟨_, rfl⟩
  obtain ⟨rn, hrn⟩ : ∃ n, rules.length = n := ⟨_, rfl⟩
  obtain ⟨nt, hnt⟩ : ∃ n, text.length = n := ⟨_, rfl⟩
  unfold RetD at HC
  rw [hD] at HC HRS HMO HMI hDL
  rw [hrn] at HC
  obtain ⟨dn, hdn⟩ : ∃ n, D.length = n := ⟨_, rfl⟩
  rw [hdn] at hDL HC
  rw [hnt] at htl
  rw [hrn, hnt]
  have HNT := Lib.hid hnt
  have HDN := Lib.hid hdn
  clear hR hs hl hc hT hRes hrn hnt hD hdn
  obtain ⟨i0, hi0, hz0, hz1, hz2⟩ := info_parts t3_info
  go_enter Try.func24, Try.ntmps24
  go_wp2_with (first
    | (go_at_call 25
       refine HC.out.mono ?_
       rintro e w1 ⟨A', c', rfl, _, _, hru, hb1⟩
       have HRU := Lib.hid hru
       have HB1 := Lib.hid hb1
       clear hru hb1))
  go_loopw [6, 7] (fun res at_ wr => ∃ (p n0 c0 : Nat) (A0 : Option Addr) (out : List (Int × Int × Int)), at_ = .int .i64 (p : Int) ∧ p ≤ nt ∧ res = .slice A0 n0 c0 ∧ n0 ≤ p ∧ Hid (out.length = n0) ∧ Hid (out ++ trR D text p = R) ∧ Hid (wr.ownsRow w.heap.size 46 3 (.slice A0 n0 c0) n0 (tr3 out)) ∧ Hid (Below w.heap.size w wr)) (fun _ at_ _ => nt - (intOf at_).toNat)
  case atStart => exact ⟨0, 0, 0, none, [], rfl, by omega, rfl, by omega, rfl, HRS.out, own_nil _, HB1⟩
  case round =>
    obtain ⟨p, n0, c0, A0, out, rfl, hp, rfl, hn0, HOL, HOUT, HO, HB⟩ := hrel
    have hbs := HB.out.size
    by_cases hpn : p < nt
    · have HSTEP := rstep_any A' At c' ct D text (p : Int) wr ((HRU.out.below HB.out).more hbs) HMI.out (by rw [HDN.out]; omega) ((HT.out.below HB.out).more hbs) (by rw [HNT.out]; omega)
      rw [HNT.out, HDN.out] at HSTEP
      replace HSTEP := Lib.hid HSTEP
      obtain ⟨i, m0, hst⟩ := step_ex D text p
      have HST := Lib.hid hst
      have HSI : Hid (StepIs D text (p : Int) i m0) := .inl ⟨by omega, by rw [HNT.out]; omega, hst⟩
      have hm1 := step_pos HMO.out hst
      have hm2 := step_in (by rw [HNT.out]; exact hpn) hst
      rw [HNT.out] at hm2
      obtain ⟨m, rfl⟩ : ∃ m : Nat, m0 = (m : Int) := ⟨m0.toNat, by omega⟩
      have HO1 : Hid ((out ++ [((p : Int), i, (m : Int))]) ++ trR D text (p + m) = R) := by
        have := HOUT.out
        rw [trR_step HMO.out (by rw [HNT.out]; exact hpn) HST.out, Int.toNat_natCast] at this
        show _ = _
        simpa using this
      clear hst
      go_wp2_with (first
        | (at_builtin
           refine wpList_append_row _ rfl (.tmp 23) (.tmp 28) _ rfl w.heap.size 46 i0 _ 3 24 Try.underlying44 hi0 hz0 hz1 hz2 rfl (by omega) (.slice A0 n0 c0) n0 (tr3 out) rfl (ow_alloc HO2.out _) _ _ 1 1 [Value.int .i64 (p : Int), Value.int .i64 i, Value.int .i64 (m : Int)] rfl rfl (row_lit w2 _ _) (by simp [Value.oneCell']) (by simp only [maxLen]; omega) (by omega) (by have := HB2.out.size; simp; omega) ?_
           intro q4 w4 o4 g4 t4
           obtain ⟨A4, c4, rfl⟩ := ow_slice (m := n0 + 1) o4 rfl
           rw [← tr3_snoc] at o4
           have HB4 : Hid (Below w.heap.size w w4) := (HB2.out.alloc HB2.out.size _).grown g4 (by have := HB2.out.size; simp; omega) (fun g hg => own_base HO2.out g hg)
           have HO4 := Lib.hid o4
           clear o4 g4 t4)
        | (go_at_call 30
           refine HSTEP.out.mono ?_
           rintro e w2 ⟨i', m', rfl, h1, hb2⟩
           obtain ⟨rfl, rfl⟩ := stepIs_unique HSI.out h1
           have HO2 := Lib.hid (ow_below HO.out hb2)
           have HB2 : Hid (Below w.heap.size w w2) := HB.out.trans (hb2.mono hbs)
           clear h1 hb2))
      go_roundw
      case rel => exact ⟨p + m, n0 + 1, c4, A4, _, by go_num, by omega, rfl, by omega, by show _ = _; simp [HOL.out], HO1, HO4, HB4⟩
      case measure => simp [intOf]; omega
    · obtain rfl : p = nt := by omega
      have HF : Hid (out = R) := by
        have := HOUT.out
        rw [trR_end (by rw [HNT.out]; omega), List.append_nil] at this
        exact this
      go_wp2
      go_ret
      obtain ⟨hr, hc1, hc2⟩ := ow_row HO.out
      have hle := HOL.out
      rw [← HF.out]
      exact ⟨A0, c0, by rw [hle]; rfl, by omega, hc2, hr, HB.out⟩
set_option maxRecDepth 100000 in
set_option maxHeartbeats 2000000 in
theorem rApply_any (A At : Option Addr) (c ct : Nat) (rules : List TR) (text : List Int) (w : World) (hR : RulesAt w w.heap.size A rules) (hs : smR rules) (hl : rules.length ≤ c) (hc : c ≤ maxLen)
    (hT : Row w w.heap.size At (ints text)) (htl : text.length ≤ 1000000) (R : List Int) (hRes : outR (dataL rules) text 0 = R) :
    Calls Try.prog 17 #[.slice A rules.length c, .slice At text.length ct] w (RetI w R) := by
  have HC := Lib.hid (data_any A c rules w hR hs hl hc)
  have HT := Lib.hid hT
  have HRS := Lib.hid hRes
  have HMO := Lib.hid (data_mat rules)
  have HMI := Lib.hid (data_mid rules)
  have HOK := Lib.hid (data_ok (l := rules))
  have hDL := data_200 rules
  obtain ⟨D, hD⟩ : ∃ D, dataL rules = D := ⟨_, rfl⟩
  obtain ⟨rn, hrn⟩ : ∃ n, rules.length = n := ⟨_, rfl⟩
  obtain ⟨nt, hnt⟩ : ∃ n, text.length = n := ⟨_, rfl⟩
  unfold RetD at HC
  rw [hD] at HC HRS HMO HMI hDL HOK
  rw [hrn] at HC
  obtain ⟨dn, hdn⟩ : ∃ n, D.length = n := ⟨_, rfl⟩
  rw [hdn] at hDL HC
  rw [hnt] at htl
  rw [hrn, hnt]
  have HNT := Lib.hid hnt
  have HDN := Lib.hid hdn
  clear hR hs hl hc hT hRes hrn hnt hD hdn
  obtain ⟨i0, hi0, hz0, hz1, hz2⟩ := info_parts in_info
  go_enter Try.func17, Try.ntmps17
  go_wp2_with (first
    | (go_at_call 25
       refine HC.out.mono ?_
       rintro e w1 ⟨A', c', rfl, _, _, hru, hb1⟩
       have HRU := Lib.hid hru
       have HB1 := Lib.hid hb1
       clear hru hb1))
  go_loopw [6, 7] (fun res at_ wr => ∃ (p n0 c0 : Nat) (A0 : Option Addr) (out : List Int), at_ = .int .i64 (p : Int) ∧ p ≤ nt ∧ res = .slice A0 n0 c0 ∧ n0 ≤ 16 * p ∧ Hid (out ++ outR D text p = R) ∧ Hid (wr.ownsRow w.heap.size 3 1 (.slice A0 n0 c0) n0 (ints out)) ∧ Hid (Below w.heap.size w wr)) (fun _ at_ _ => nt - (intOf at_).toNat)
  case atStart => exact ⟨0, 0, 0, none, [], rfl, by omega, rfl, by omega, HRS.out, own_nil _, HB1⟩
  case round =>
    obtain ⟨p, n0, c0, A0, out, rfl, hp, rfl, hn0, HOUT, HO, HB⟩ := hrel
    have hbs := HB.out.size
    by_cases hpn : p < nt
    · have HSTEP := rstep_any A' At c' ct D text (p : Int) wr ((HRU.out.below HB.out).more hbs) HMI.out (by rw [HDN.out]; omega) ((HT.out.below HB.out).more hbs) (by rw [HNT.out]; omega)
      rw [HNT.out, HDN.out] at HSTEP
      replace HSTEP := Lib.hid HSTEP
      obtain ⟨i, m0, hst⟩ := step_ex D text p
      have HST := Lib.hid hst
      have HSI : Hid (StepIs D text (p : Int) i m0) := .inl ⟨by omega, by rw [HNT.out]; omega, hst⟩
      have hm1 := step_pos HMO.out hst
      have hm2 := step_in (by rw [HNT.out]; exact hpn) hst
      rw [HNT.out] at hm2
      obtain ⟨m, rfl⟩ : ∃ m : Nat, m0 = (m : Int) := ⟨m0.toNat, by omega⟩
      obtain ⟨P, hP⟩ : ∃ P, writS D text p i = P := ⟨_, rfl⟩
      have hPl := writS_len HOK.out hst
      rw [hP] at hPl
      have HW : Hid (∀ u, Below w.heap.size w u → Calls Try.prog 26 #[.slice A' dn c', .slice At nt ct, .int .i64 (p : Int), .int .i64 i] u (RetI u P)) := fun u hu => by
        have := written_any A' At c' ct D text p i (m : Int) u ((HRU.out.below hu).more hu.size) HOK.out (by rw [HDN.out]; omega) ((HT.out.below hu).more hu.size) (by rw [HNT.out]; exact hpn) (by rw [HNT.out]; omega) HST.out P hP
        rw [HDN.out, HNT.out] at this
        exact this
      have HO1 : Hid ((out ++ P) ++ outR D text (p + m) = R) := by
        have := HOUT.out
        rw [outR_step HMO.out (by rw [HNT.out]; exact hpn) HST.out, Int.toNat_natCast, hP] at this
        show _ = _
        rw [List.append_assoc]
        exact this
      obtain ⟨np, hnp⟩ : ∃ n, P.length = n := ⟨_, rfl⟩
      unfold RetI at HW
      rw [hnp] at HW hPl
      have HNP := Lib.hid hnp
      clear hst hP hnp
      go_wp2_with (first
        | (at_builtin
           refine wpList_append_row _ rfl (.tmp 23) (.tmp 28) _ rfl w.heap.size 3 i0 _ 1 8 Try.underlying23 hi0 hz0 hz1 hz2 rfl (by omega) (.slice A0 n0 c0) n0 (ints out) rfl HO3.out _ _ np cp (ints P) rfl (by rw [ints_len, HNP.out, Nat.mul_one]) hrp.out (ints_one _) (by simp only [maxLen]; omega) (by omega) HB3.out.size ?_
           intro q4 w4 o4 g4 t4
           obtain ⟨A4, c4, rfl⟩ := ow_slice (m := n0 + np) o4 rfl
           rw [← ints_append] at o4
           have HB4 : Hid (Below w.heap.size w w4) := HB3.out.grown g4 HB3.out.size (fun g hg => own_base HO3.out g hg)
           have HO4 := Lib.hid o4
           clear o4 g4 t4)
        | (go_at_call 26
           refine (HW.out w2 HB2.out).mono ?_
           rintro e w3 ⟨Ap, cp, rfl, _, _, hrp, hb3⟩
           replace hrp := Lib.hid hrp
           have HO3 := Lib.hid (ow_below HO2.out hb3)
           have HB3 : Hid (Below w.heap.size w w3) := HB2.out.trans (hb3.mono HB2.out.size)
           clear hb3)
        | (go_at_call 30
           refine HSTEP.out.mono ?_
           rintro e w2 ⟨i', m', rfl, h1, hb2⟩
           obtain ⟨rfl, rfl⟩ := stepIs_unique HSI.out h1
           have HO2 := Lib.hid (ow_below HO.out hb2)
           have HB2 : Hid (Below w.heap.size w w2) := HB.out.trans (hb2.mono hbs)
           clear h1 hb2))
      go_roundw
      case rel => exact ⟨p + m, n0 + np, c4, A4, _, by go_num, by omega, rfl, by omega, HO1, HO4, HB4⟩
      case measure => simp [intOf]; omega
    · obtain rfl : p = nt := by omega
      have HF : Hid (out = R) := by
        have := HOUT.out
        rw [outR_end (by rw [HNT.out]; omega), List.append_nil] at this
        exact this
      go_wp2
      go_ret
      obtain ⟨hr, hc1, hc2⟩ := ow_row HO.out
      have hle := HO.out.1
      rw [ints_len, Nat.mul_one] at hle
      rw [← HF.out]
      exact ⟨A0, c0, by rw [hle]; rfl, by omega, hc2, hr, HB.out⟩
end Go.Proofs.Ytledbiabdiijhaa
