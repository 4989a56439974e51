/-
  ref51.Written, ref51.Trace, ref51.Apply.
  ref51.Trace, ref51.Apply.
-/
import Derived.Test.YtjohoohdjlajcaaTu0
import Derived.Test.YtjohoohdjlajcaaTt8
namespace Go.Proofs.Ytjohoohdjlajcaa
open Go.RowKit Go.UtYtjohoohdjlajcaa
set_option maxRecDepth 100000 in
set_option maxHeartbeats 2000000 in
theorem written_any (A At : Option Addr) (c ct : Nat) (D : List TR) (text : List Int) (p : Nat) (i m : Int) (w : World) (hR : RulesAt w w.heap.size A D) (hok : ∀ r ∈ D, chk1 r = 0) (_hd : D.length ≤ 1000000) (hT : Row w w.heap.size At (ints text)) (hp : p < text.length) (hl : text.length ≤ 100000000)
    (hst : IsStep D text p i m) (R : List Int) (hRes : writS D text p i = R) :
    Calls Try.prog 36 #[.slice A D.length c, .slice At text.length ct, .int .i64 (p : Int), .int .i64 i] w (RetI w R) := by
  have HR := Lib.hid hR
  have HT := Lib.hid hT
  have HOK := Lib.hid hok
  have HRS := Lib.hid hRes
  obtain ⟨dn, hdn⟩ : ∃ n, D.length = n := ⟨_, rfl⟩
  obtain ⟨nt, hnt⟩ : ∃ n, text.length = n := ⟨_, rfl⟩
  rw [hdn] at _hd
  rw [hnt] at hl hp
  rw [hdn, hnt]
  have HDN := Lib.hid hdn
  have HNT := Lib.hid hnt
  clear hR hT hok hRes hdn hnt
  obtain ⟨i0, hi0, hz0, hz1, hz2⟩ := info_parts in_info
  rcases hst with ⟨rfl, rfl, _⟩ | ⟨k, r, rfl, hk, rfl, happ, _⟩
  · obtain ⟨bt, ot, x, rfl, hbt, hxt, cct⟩ := HT.out.at_int (k := p) (by rw [HNT.out]; exact hp)
    have HX : Hid (R = [x]) := by
      show _ = _
      rw [← HRS.out, writS_neg D hxt.out]
    go_enter Try.func36, Try.ntmps36
    go_wp2
    go_ret
    rw [HX.out]
    exact ⟨_, _, rfl, by simp, by simp [maxLen], (row_lit w _ _).lt, (Below.refl _ _).alloc (Nat.le_refl _) _⟩
  · have hkd : k < dn := by
      have := (List.getElem?_eq_some_iff.1 hk).1
      rw [HDN.out] at this
      exact this
    obtain ⟨hsz, hso, hro⟩ := chk1_ok (HOK.out r (List.mem_of_getElem? hk))
    have hfit := ((hits_append.1 happ.1).1).1
    rw [HNT.out] at hfit
    have hr16 := hsz.2.2.2.2
    have HX : Hid (r.res.map (pieceW text p) = R) := by
      show _ = _
      rw [← HRS.out, writS_rule hk]
    obtain ⟨br, or, v0, v1, v2, v3, r', rfl, hbr, hxr, HRA, c0', c1', c2', c3'⟩ := HR.out.at_ (k := k) (by rw [HDN.out]; exact hkd)
    obtain rfl : r' = r := by
      have := hxr.out
      rw [hk] at this
      injection this with this
      exact this.symm
    obtain ⟨Ab, cb, Am, cm, Aa, ca, Ar, cr, hvs, ⟨_, _, _, rr⟩, _, _, _, r1, r2⟩ := HRA.out
    simp only [List.cons.injEq, and_true] at hvs
    obtain ⟨rfl, rfl, rfl, rfl⟩ := hvs
    have RR := Lib.hid rr
    have HRO := Lib.hid hro
    obtain ⟨nr, hnr⟩ : ∃ n, r'.res.length = n := ⟨_, rfl⟩
    obtain ⟨nm, hnm⟩ : ∃ n, r'.mat.length = n := ⟨_, rfl⟩
    rw [hnr] at c3' r1 hr16
    rw [hnm] at hfit c1'
    unfold maxLen at r2
    have HNR := Lib.hid hnr
    have HNM := Lib.hid hnm
    clear rr hro hso hsz hnr hnm HRA hk hxr happ
    go_enter Try.func36, Try.ntmps36
    go_wp2
    go_loopw [9, 10] (fun res j wr => ∃ (q n1 c1 : Nat) (A1 : Option Addr), q ≤ nr ∧ j = .int .i64 (q : Int) ∧ res = .slice A1 n1 c1 ∧ n1 ≤ q ∧ Hid (wr.ownsRow w.heap.size 3 1 (.slice A1 n1 c1) n1 (ints ((r'.res.take q).map (pieceW text p)))) ∧ Hid (Below w.heap.size w wr)) (fun _ j _ => nr - (intOf j).toNat)
    case atStart => exact ⟨0, 0, 0, none, by omega, rfl, rfl, by omega, own_nil _, Below.refl _ _⟩
    case round =>
      obtain ⟨q, n1, c1, A1, hq, rfl, rfl, hn1, HOq, HBq⟩ := hrel
      have hbq := HBq.out.size
      have d3 := (HBq.out.cell (p := ⟨br, or + k * 4 + 3, none⟩) hbr).trans c3'
      by_cases hqn : q < nr
      · obtain ⟨bp, op, x', y', rfl, hbp, hxp, cp0, cp1⟩ := at_pr (RR.out.below HBq.out) (k := q) (by rw [HNR.out]; exact hqn)
        have hpo := HRO.out (x', y') (List.mem_of_getElem? hxp.out)
        have HMT := Lib.hid (map_take (f := pieceW text p) hxp.out)
        go_upto_region 8 with fail
        obtain ⟨wb, hwb, HBb, HKb⟩ : ∃ v, v = wr.alloc (.cells #[.int .i64 x', .int .i64 y'] 59) ∧ Hid (Below wr.heap.size wr v) ∧ Hid (Blk v wr.heap.size 59 #[.int .i64 x', .int .i64 y']) := ⟨_, rfl, (Below.refl _ _).alloc (Nat.le_refl _) _, Blk.new _ _ _⟩
        rw [← hwb]
        clear hwb
        have HOb := Lib.hid (ow_below HOq.out HBb.out)
        have HBB : Hid (Below w.heap.size w wb) := HBq.out.trans (HBb.out.mono hbq)
        have hbb := HBB.out.size
        have f0 := HKb.out.cell 0
        have f1 := HKb.out.cell 1
        have f2 := HKb.out.lt
        simp at f0 f1
        clear cp0 cp1
        by_cases hy : y' = 0
        · subst hy
          rw [pieceW_code] at HMT
          go_wp2_with (first
            | (at_builtin
               refine wpList_append_row _ rfl (.tmp 51) (.tmp 54) _ rfl w.heap.size 3 i0 _ 1 8 Try.underlying31 hi0 hz0 hz1 hz2 rfl (by omega) (.slice A1 n1 c1) n1 (ints ((r'.res.take q).map (pieceW text p))) rfl (ow_alloc HOb.out _) _ _ 1 1 [Value.int .i64 x'] rfl rfl (row_lit wb _ _) (ints_one1 _) (by simp only [maxLen]; omega) (by omega) (by simp; omega) ?_
               intro q4 w4 o4 g4 t4
               obtain ⟨A4, c4, rfl⟩ := ow_slice (m := n1 + 1) o4 rfl
               rw [← ints_snoc, ← HMT.out] at o4
               have HB4 : Hid (Below w.heap.size w w4) := (HBB.out.alloc hbb _).grown g4 (by simp; omega) (fun g hg => own_base HOb.out g hg)
               have HO4 := Lib.hid o4
               clear o4 g4 t4))
          go_roundw
          case rel => exact ⟨q + 1, n1 + 1, c4, A4, by omega, by go_num, rfl, by omega, HO4, HB4⟩
          case measure => simp [intOf]; omega
        · have hyr : 1 ≤ y' ∧ y' ≤ (nm : Int) := by
            rcases hpo with h | h
            · exact absurd h.1 hy
            · exact ⟨h.2.1, by have := h.2.2; rw [HNM.out] at this; exact this⟩
          obtain ⟨hy1, hy2⟩ := hyr
          obtain ⟨bt, ot, z, rfl, hbt, hz5, c5⟩ := (HT.out.below HBB.out).at_int (k := p + y'.toNat - 1) (by rw [HNT.out]; omega)
          rw [pieceW_copy hy hz5.out] at HMT
          have k1 : IntKind.i64.wrap ((p : Int) + y') = (p : Int) + y' := IntWalk.i64_in _ (by omega)
          have k2 : IntKind.i64.wrap ((p : Int) + y' - 1) = (p : Int) + y' - 1 := IntWalk.i64_in _ (by omega)
          have k3 : (0 : Int) ≤ (p : Int) + y' - 1 := by omega
          have k4 : (p : Int) + y' - 1 < (nt : Int) := by omega
          have k5 : ((p : Int) + y' - 1).toNat = p + y'.toNat - 1 := by omega
          have hbt3 : bt < wb.heap.size := by omega
          clear hpo
          go_wp2_with (first
            | (at_builtin
               refine wpList_append_row _ rfl (.tmp 40) (.tmp 49) _ rfl w.heap.size 3 i0 _ 1 8 Try.underlying31 hi0 hz0 hz1 hz2 rfl (by omega) (.slice A1 n1 c1) n1 (ints ((r'.res.take q).map (pieceW text p))) rfl (ow_alloc HOb.out _) _ _ 1 1 [Value.int .i64 z] rfl rfl (row_lit wb _ _) (ints_one1 _) (by simp only [maxLen]; omega) (by omega) (by simp; omega) ?_
               intro q4 w4 o4 g4 t4
               obtain ⟨A4, c4, rfl⟩ := ow_slice (m := n1 + 1) o4 rfl
               rw [← ints_snoc, ← HMT.out] at o4
               have HB4 : Hid (Below w.heap.size w w4) := (HBB.out.alloc hbb _).grown g4 (by simp; omega) (fun g hg => own_base HOb.out g hg)
               have HO4 := Lib.hid o4
               clear o4 g4 t4))
          go_roundw
          case rel => exact ⟨q + 1, n1 + 1, c4, A4, by omega, by go_num, rfl, by omega, HO4, HB4⟩
          case measure => simp [intOf]; omega
      · obtain rfl : nr = q := by omega
        rw [List.take_of_length_le (by rw [HNR.out]; exact Nat.le_refl _), HX.out] at HOq
        go_wp2
        go_ret
        obtain ⟨hr, hc1, hc2⟩ := ow_row HOq.out
        have hle := HOq.out.1
        rw [ints_len, Nat.mul_one] at hle
        exact ⟨A1, c1, by rw [hle]; rfl, by omega, hc2, hr, HBq.out⟩
end Go.Proofs.Ytjohoohdjlajcaa
namespace Go.UtYtjohoohdjlajcaa
theorem writS_len {rules : List TR} (hok : ∀ r ∈ rules, chk1 r = 0) {text : List Int} {p : Nat} {i m : Int} (h : IsStep rules text p i m) : (writS rules text p i).length ≤ 16 := by
  rcases h with ⟨rfl, _, _⟩ | ⟨k, r, rfl, hk, _⟩
  · simp [writS]
  · rw [writS_rule hk, List.length_map]
    exact (chk1_ok (hok r (List.mem_of_getElem? hk))).1.2.2.2.2
end Go.UtYtjohoohdjlajcaa
namespace Go.Proofs.Ytjohoohdjlajcaa
open Go.RowKit Go.UtYtjohoohdjlajcaa
set_option maxRecDepth 100000 in
set_option maxHeartbeats 2000000 in
theorem rApply_any (A At : Option Addr) (c ct : Nat) (rules : List TR) (text : List Int) (w : World) (hR : RulesAt w w.heap.size A rules) (hs : smR rules) (hl : rules.length ≤ c) (hc : c ≤ maxLen)
    (hT : Row w w.heap.size At (ints text)) (htl : text.length ≤ 1000000) (R : List Int) (hRes : outR (dataL rules) text 0 = R) :
    Calls Try.prog 17 #[.slice A rules.length c, .slice At text.length ct] w (RetI w R) := by
  have HC := Lib.hid (data_any A c rules w hR hs hl hc)
  have HT := Lib.hid hT
  have HRS := Lib.hid hRes
  have HMO := Lib.hid (data_mat rules)
  have HMI := Lib.hid (data_mid rules)
  have HOK := Lib.hid (data_ok (l := rules))
  have hDL := data_200 rules
  obtain ⟨D, hD⟩ : ∃ D, dataL rules = D := ⟨_, rfl⟩
  obtain ⟨rn, hrn⟩ : ∃ n, rules.length = n := ⟨_, rfl⟩
  obtain ⟨nt, hnt⟩ : ∃ n, text.length = n := ⟨_, rfl⟩
  unfold RetD at HC
  rw [hD] at HC HRS HMO HMI hDL HOK
  rw [hrn] at HC
  obtain ⟨dn, hdn⟩ : ∃ n, D.length = n := ⟨_, rfl⟩
  rw [hdn] at hDL HC
  rw [hnt] at htl
  rw [hrn, hnt]
  have HNT := Lib.hid hnt
  have HDN := Lib.hid hdn
  clear hR hs hl hc hT hRes hrn hnt hD hdn
  obtain ⟨i0, hi0, hz0, hz1, hz2⟩ := info_parts in_info
  go_enter Try.func17, Try.ntmps17
  go_wp2_with (first
    | (go_at_call 34
       refine HC.out.mono ?_
       rintro e w1 ⟨A', c', rfl, _, _, hru, hb1⟩
       have HRU := Lib.hid hru
       have HB1 := Lib.hid hb1
       clear hru hb1))
  go_loopw [6, 7] (fun res at_ wr => ∃ (p n0 c0 : Nat) (A0 : Option Addr) (out : List Int), at_ = .int .i64 (p : Int) ∧ p ≤ nt ∧ res = .slice A0 n0 c0 ∧ n0 ≤ 16 * p ∧ Hid (out ++ outR D text p = R) ∧ Hid (wr.ownsRow w.heap.size 3 1 (.slice A0 n0 c0) n0 (ints out)) ∧ Hid (Below w.heap.size w wr)) (fun _ at_ _ => nt - (intOf at_).toNat)
  case atStart => exact ⟨0, 0, 0, none, [], rfl, by omega, rfl, by omega, HRS.out, own_nil _, HB1⟩
  case round =>
    obtain ⟨p, n0, c0, A0, out, rfl, hp, rfl, hn0, HOUT, HO, HB⟩ := hrel
    have hbs := HB.out.size
    by_cases hpn : p < nt
    · have HSTEP := rstep_any A' At c' ct D text (p : Int) wr ((HRU.out.below HB.out).more hbs) HMI.out (by rw [HDN.out]; omega) ((HT.out.below HB.out).more hbs) (by rw [HNT.out]; omega)
      rw [HNT.out, HDN.out] at HSTEP
      replace HSTEP := Lib.hid HSTEP
      obtain ⟨i, m0, hst⟩ := step_ex D text p
      have HST := Lib.hid hst
      have HSI : Hid (StepIs D text (p : Int) i m0) := .inl ⟨by omega, by rw [HNT.out]; omega, hst⟩
      have hm1 := step_pos HMO.out hst
      have hm2 := step_in (by rw [HNT.out]; exact hpn) hst
      rw [HNT.out] at hm2
      obtain ⟨m, rfl⟩ : ∃ m : Nat, m0 = (m : Int) := ⟨m0.toNat, by omega⟩
      obtain ⟨P, hP⟩ : ∃ P, writS D text p i = P := ⟨_, rfl⟩
      have hPl := writS_len HOK.out hst
      rw [hP] at hPl
      have HW : Hid (∀ u, Below w.heap.size w u → Calls Try.prog 36 #[.slice A' dn c', .slice At nt ct, .int .i64 (p : Int), .int .i64 i] u (RetI u P)) := fun u hu => by
        have := written_any A' At c' ct D text p i (m : Int) u ((HRU.out.below hu).more hu.size) HOK.out (by rw [HDN.out]; omega) ((HT.out.below hu).more hu.size) (by rw [HNT.out]; exact hpn) (by rw [HNT.out]; omega) HST.out P hP
        rw [HDN.out, HNT.out] at this
        exact this
      have HO1 : Hid ((out ++ P) ++ outR D text (p + m) = R) := by
        have := HOUT.out
        rw [outR_step HMO.out (by rw [HNT.out]; exact hpn) HST.out, Int.toNat_natCast, hP] at this
        show _ = _
        rw [List.append_assoc]
        exact this
      obtain ⟨np, hnp⟩ : ∃ n, P.length = n := ⟨_, rfl⟩
      unfold RetI at HW
      rw [hnp] at HW hPl
      have HNP := Lib.hid hnp
      clear hst hP hnp
      go_wp2_with (first
        | (at_builtin
           refine wpList_append_row _ rfl (.tmp 23) (.tmp 28) _ rfl w.heap.size 3 i0 _ 1 8 Try.underlying31 hi0 hz0 hz1 hz2 rfl (by omega) (.slice A0 n0 c0) n0 (ints out) rfl HO3.out _ _ np cp (ints P) rfl (by rw [ints_len, HNP.out, Nat.mul_one]) hrp.out (ints_one _) (by simp only [maxLen]; omega) (by omega) HB3.out.size ?_
           intro q4 w4 o4 g4 t4
           obtain ⟨A4, c4, rfl⟩ := ow_slice (m := n0 + np) o4 rfl
           rw [← ints_append] at o4
           have HB4 : Hid (Below w.heap.size w w4) := HB3.out.grown g4 HB3.out.size (fun g hg => own_base HO3.out g hg)
           have HO4 := Lib.hid o4
           clear o4 g4 t4)
        | (go_at_call 36
           refine (HW.out w2 HB2.out).mono ?_
           rintro e w3 ⟨Ap, cp, rfl, _, _, hrp, hb3⟩
           replace hrp := Lib.hid hrp
           have HO3 := Lib.hid (ow_below HO2.out hb3)
           have HB3 : Hid (Below w.heap.size w w3) := HB2.out.trans (hb3.mono HB2.out.size)
           clear hb3)
        | (go_at_call 35
           refine HSTEP.out.mono ?_
           rintro e w2 ⟨i', m', rfl, h1, hb2⟩
           obtain ⟨rfl, rfl⟩ := stepIs_unique HSI.out h1
           have HO2 := Lib.hid (ow_below HO.out hb2)
           have HB2 : Hid (Below w.heap.size w w2) := HB.out.trans (hb2.mono hbs)
           clear h1 hb2))
      go_roundw
      case rel => exact ⟨p + m, n0 + np, c4, A4, _, by go_num, by omega, rfl, by omega, HO1, HO4, HB4⟩
      case measure => simp [intOf]; omega
    · obtain rfl : p = nt := by omega
      have HF : Hid (out = R) := by
        have := HOUT.out
        rw [outR_end (by rw [HNT.out]; omega), List.append_nil] at this
        exact this
      go_wp2
      go_ret
      obtain ⟨hr, hc1, hc2⟩ := ow_row HO.out
      have hle := HO.out.1
      rw [ints_len, Nat.mul_one] at hle
      rw [← HF.out]
      exact ⟨A0, c0, by rw [hle]; rfl, by omega, hc2, hr, HB.out⟩
end Go.Proofs.Ytjohoohdjlajcaa
