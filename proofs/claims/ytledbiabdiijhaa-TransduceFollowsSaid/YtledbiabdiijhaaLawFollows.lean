/-
  TransduceFollows: for every input the law returns true, and its arguments read as before. No condition.
-/
import Derived.Test.YtledbiabdiijhaaRows
import Derived.Test.YtledbiabdiijhaaLift
import Derived.Test.YtledbiabdiijhaaTlo
import Derived.Test.YtledbiabdiijhaaTu4
import Derived.Test.YtledbiabdiijhaaTu5
import Derived.Test.YtledbiabdiijhaaTu6
import Derived.Deep.CutBlock
import Derived.ChangeKeysEq
namespace Go.Proofs.Ytledbiabdiijhaa.LFollows
open Go.ChangeShapes Go.WideShapes Go.ChangeAt Go.RowKit Go.UtYtledbiabdiijhaa Go.Joins
theorem run_eq_t3 (w : World) (a b c : Int) : (Op.equalIn 10000 46 (.agg #[.int .i64 a, .int .i64 b, .int .i64 c]) (.agg #[.int .i64 a, .int .i64 b, .int .i64 c])).run Try.prog w = .ok true w := by
  obtain ⟨i0, hi0, hz0, hz1, hz2⟩ := info_parts in_info
  rw [show (10000 : Nat) = 9999 + 1 by rfl, run_equalIn_array w 9999 _ _ Try.underlying46 hi0]
  have hc : Try.prog.cellsOf 3 = 1 := by kernel_rfl
  rw [hc, show List.range 3 = [0, 1, 2] by rfl]
  simp [Op.eqItems, go_sem]
theorem trR_at {D : List TR} (hm : matOk D) {text : List Int} {p k : Nat} {R : List (Int × Int × Int)} (h : R.drop k = trR D text p) (hk : k < R.length) {i m : Int} (hst : IsStep D text p i m) : p < text.length ∧ R[k]? = some ((p : Int), i, m) ∧ R.drop (k + 1) = trR D text (p + m.toNat) := by
  have hp : p < text.length := by
    rcases Nat.lt_or_ge p text.length with h1 | h1
    · exact h1
    · rw [trR_end (by omega)] at h
      have := List.drop_eq_nil_iff.1 h
      omega
  rw [trR_step hm hp hst] at h
  rw [List.drop_eq_getElem_cons hk] at h
  injection h with h1 h2
  exact ⟨hp, by rw [List.getElem?_eq_getElem hk, h1], h2⟩
theorem trR_stop {D : List TR} {text : List Int} {p : Nat} {R : List (Int × Int × Int)} (h : R.drop R.length = trR D text p) : ¬ p < text.length := fun hp => by
  rw [List.drop_length, trR, dif_pos hp] at h
  cases h
theorem data_ne {rules : List TR} {k : Nat} {r : TR} (h : (dataL rules)[k]? = some r) : dataL rules = rules := by
  unfold dataL at h ⊢
  by_cases hc : chkL rules = 0
  · rw [if_pos hc]
  · rw [if_neg hc] at h
    simp at h
set_option maxRecDepth 100000 in
theorem written_neg (A At : Option Addr) (c ct n : Nat) (text : List Int) (p : Nat) (x : Int) (w : World) (hT : Row w w.heap.size At (ints text)) (hx : text[p]? = some x) (_hl : text.length ≤ 1000000) :
    Calls Try.prog 26 #[.slice A n c, .slice At text.length ct, .int .i64 (p : Int), .int .i64 (-1)] w (RetI w [x]) := by
  have HT := Lib.hid hT
  have hp := (List.getElem?_eq_some_iff.1 hx).1
  obtain ⟨bt, ot, y, rfl, hbt, hxt, cct⟩ := HT.out.at_int (k := p) hp
  obtain rfl : y = x := by
    have := hxt.out
    rw [hx] at this
    injection this with this
    exact this.symm
  obtain ⟨nt, hnt⟩ : ∃ n, text.length = n := ⟨_, rfl⟩
  rw [hnt] at hp _hl ⊢
  clear hT hx hnt
  go_enter Try.func26, Try.ntmps26
  go_wp2
  go_ret
  exact ⟨_, _, rfl, by simp, by simp [maxLen], (row_lit w _ _).lt, (Below.refl _ _).alloc (Nat.le_refl _) _⟩
set_option maxRecDepth 100000 in
set_option maxHeartbeats 4000000 in
theorem walk (w : World) (A : Option Addr) (c : Nat) (rules : List TR) (lc : rules.length ≤ c) (lm : c ≤ maxLen) (hR : RulesAt w w.heap.size A rules) (At : Option Addr) (ct : Nat) (text : List Int) (lct : text.length ≤ ct) (lmt : ct ≤ maxLen) (hT : Row w w.heap.size At (ints text)) :
    Calls Try.prog 10 #[.slice A rules.length c, .slice At text.length ct] w fun e w' => e = .returned (.bool true) ∧ Below w.heap.size w w' := by
  have HR := Lib.hid hR
  have HT := Lib.hid hT
  have HLC := Lib.hid lc
  have HLM := Lib.hid lm
  have lmt2 := Nat.le_trans lct lmt
  by_cases hf : smL rules ∧ text.length ≤ 40
  · have hsm := hf.1.smR
    have hrl := hf.1.1
    have htl := hf.2
    obtain ⟨R, hRes⟩ : ∃ R, trR (dataL rules) text 0 = R := ⟨_, rfl⟩
    obtain ⟨F, hFul⟩ : ∃ R, outR (dataL rules) text 0 = R := ⟨_, rfl⟩
    have HRS := Lib.hid hRes
    have HFU := Lib.hid hFul
    have HMO := Lib.hid (data_mat rules)
    have HOK := Lib.hid (data_ok (l := rules))
    have HSM := Lib.hid hsm
    clear hR hT lc lm lct lmt hRes hFul
    go_enter Try.func10, Try.ntmps10
    go_wp2_with fail
    refine (few_any A At c ct rules text w HR.out HLC.out HLM.out true ⟨fun _ => hf, fun _ => rfl⟩).mono ?_
    rintro e w1 ⟨rfl, hb1⟩
    have HB1 := Lib.hid hb1
    have HR1 := Lib.hid (HR.out.below hb1).lt
    have HT1 := Lib.hid (HT.out.below hb1).lt
    clear hb1
    clear HR HT hsm
    go_wp2_with fail
    refine (pTrace_any A At c ct rules text w1 HR1.out HSM.out HLC.out HLM.out (by omega) HT1.out (by omega) R HRS.out).mono ?_
    rintro e w2 ⟨A2, c2, rfl, g1, g2, hr2, hb2⟩
    have HTR0 := Lib.hid hr2
    have HB2 := Lib.hid (HB1.out.trans (hb2.mono HB1.out.size))
    have HR2 := Lib.hid (HR1.out.below hb2).lt
    have HT2 := Lib.hid (HT1.out.below hb2).lt
    clear hb2 hr2 HR1 HT1
    have HDA : Hid (∀ u, Below w2.heap.size w2 u → Calls Try.prog 25 #[.slice A rules.length c] u (RetD u rules)) := fun u hu => data_any A c rules u (HR2.out.below hu).lt HSM.out HLC.out HLM.out
    have HPS : Hid (∀ u (p : Nat), Below w2.heap.size w2 u → Calls Try.prog 13 #[.slice A rules.length c, .slice At text.length ct, .int .i64 (p : Int)] u (RetSt u (dataL rules) text (p : Int))) := fun u p hu => pStep_any A At c ct rules text (p : Int) u (HR2.out.below hu).lt HSM.out HLC.out HLM.out (by omega) (HT2.out.below hu).lt (by omega)
    have HWN : Hid (∀ u (p : Nat) (x : Int), Below w2.heap.size w2 u → text[p]? = some x → Calls Try.prog 26 #[.slice A rules.length c, .slice At text.length ct, .int .i64 (p : Int), .int .i64 (-1)] u (RetI u [x])) := fun u p x hu hx => written_neg A At c ct rules.length text p x u (HT2.out.below hu).lt hx (by omega)
    have HWR : Hid (∀ u (p : Nat) (i m : Int) (P : List Int), Below w2.heap.size w2 u → dataL rules = rules → p < text.length → IsStep rules text p i m → writS rules text p i = P → Calls Try.prog 26 #[.slice A rules.length c, .slice At text.length ct, .int .i64 (p : Int), .int .i64 i] u (RetI u P)) := fun u p i m P hu hd hp hst hP => written_any A At c ct rules text p i m u (HR2.out.below hu).lt (by have := HOK.out; rw [hd] at this; exact this) (by omega) (HT2.out.below hu).lt hp (by omega) hst P hP
    have HAP : Hid (∀ u, Below w2.heap.size w2 u → Calls Try.prog 16 #[.slice A rules.length c, .slice At text.length ct] u (RetI u F)) := fun u hu => pApply_any A At c ct rules text u (HR2.out.below hu).lt HSM.out HLC.out HLM.out (by omega) (HT2.out.below hu).lt (by omega) F HFU.out
    obtain ⟨nr, hnr⟩ : ∃ n, R.length = n := ⟨_, rfl⟩
    obtain ⟨rn, hrn⟩ : ∃ n, rules.length = n := ⟨_, rfl⟩
    obtain ⟨nt, hnt⟩ : ∃ n, text.length = n := ⟨_, rfl⟩
    obtain ⟨dn, hdn⟩ : ∃ n, (dataL rules).length = n := ⟨_, rfl⟩
    unfold RetD at HDA
    rw [hdn] at HDA
    rw [hrn] at HDA
    rw [hrn, hnt] at HPS HWN HWR HAP
    rw [hrn] at hrl
    rw [hnt] at htl
    have hdl := data_200 rules
    rw [hdn] at hdl
    rw [hnr] at g1
    rw [hnr, hrn, hnt]
    unfold maxLen at g2
    have HNR := Lib.hid hnr
    have HRN := Lib.hid hrn
    have HNT := Lib.hid hnt
    have HDN := Lib.hid hdn
    have hs2 := HB2.out.size
    clear hnr hrn hnt hdn hf
    obtain ⟨i0, hi0, hz0, hz1, hz2⟩ := info_parts in_info
    go_wp2_with fail
    go_loopw [5, 6, 8] (fun at_ wn j wr => ∃ (k p n0 c0 : Nat) (A0 : Option Addr) (out : List Int), k ≤ nr ∧ j = .int .i64 (k : Int) ∧ at_ = .int .i64 (p : Int) ∧ p ≤ nt ∧ wn = .slice A0 n0 c0 ∧ n0 ≤ 16 * p ∧ Hid (R.drop k = trR (dataL rules) text p) ∧ Hid (out ++ outR (dataL rules) text p = F) ∧ Hid (wr.ownsRow w2.heap.size 3 1 (.slice A0 n0 c0) n0 (ints out)) ∧ Hid (Below w2.heap.size w2 wr)) (fun _ _ j _ => nr - (intOf j).toNat)
    case atStart => exact ⟨0, 0, 0, 0, none, [], by omega, rfl, rfl, by omega, rfl, by omega, HRS.out.symm, HFU.out, own_nil _, Below.refl _ _⟩
    case round =>
      obtain ⟨k, p, n0, c0, A0, out, hk, rfl, rfl, hp, rfl, hn0, HRD, HOUT, HO, HB⟩ := hrel
      have hbs := HB.out.size
      by_cases hkn : k < nr
      · obtain ⟨i, m0, hst⟩ := step_ex (dataL rules) text p
        obtain ⟨hpn, hrk, hrd⟩ := trR_at HMO.out HRD.out (by rw [HNR.out]; exact hkn) hst
        have hm1 := step_pos HMO.out hst
        have hm2 := step_in hpn hst
        rw [HNT.out] at hm2 hpn
        obtain ⟨m, rfl⟩ : ∃ m : Nat, m0 = (m : Int) := ⟨m0.toNat, by omega⟩
        rw [Int.toNat_natCast] at hrd
        have HRD' := Lib.hid hrd
        have HSI : Hid (StepIs (dataL rules) text (p : Int) i (m : Int)) := .inl ⟨by omega, by rw [HNT.out]; omega, hst⟩
        obtain ⟨b, o, x, y, z, rfl, hb, hx, c1, c2', c3⟩ := at_tr (HTR0.out.below HB.out) (k := k) (by rw [HNR.out]; exact hkn)
        obtain ⟨rfl, rfl, rfl⟩ : x = (p : Int) ∧ y = i ∧ z = (m : Int) := by
          have h1 := hx.out
          rw [hrk] at h1
          simp only [Option.some.injEq, Prod.mk.injEq] at h1
          exact ⟨h1.1.symm, h1.2.1.symm, h1.2.2.symm⟩
        have HST := Lib.hid hst
        clear hrk hrd hx
        rcases hst with ⟨rfl, hm, _⟩ | ⟨kk, r, rfl, hkk, hm, happ, _⟩
        · obtain rfl : m = 1 := by omega
          obtain ⟨xt, hxt⟩ : ∃ x, text[p]? = some x := ⟨_, List.getElem?_eq_getElem (by rw [HNT.out]; exact hpn)⟩
          have HXT := Lib.hid hxt
          have HO1 : Hid ((out ++ [xt]) ++ outR (dataL rules) text (p + 1) = F) := by
            have := HOUT.out
            rw [outR_step HMO.out (by rw [HNT.out]; exact hpn) HST.out, writS_neg _ hxt] at this
            show _ = _
            simpa using this
          clear hxt hm
          have hne := fun u => run_eq_t3 u (p : Int) (-1) 1
          go_wp2_with fail
          refine (HPS.out wr p HB.out).mono ?_
          rintro e w3 ⟨i', m', rfl, hst, hb3⟩
          obtain ⟨rfl, rfl⟩ := stepIs_unique HSI.out hst
          have HB3 := Lib.hid (HB.out.trans (hb3.mono hbs))
          have HO3 := Lib.hid (ow_below HO.out hb3)
          have d1 := ((hb3.mono hbs).cell (p := ⟨b, o + k * 3, none⟩) hb).trans c1
          have d2 := ((hb3.mono hbs).cell (p := ⟨b, o + k * 3 + 1, none⟩) hb).trans c2'
          have d3 := ((hb3.mono hbs).cell (p := ⟨b, o + k * 3 + 2, none⟩) hb).trans c3
          have hs3 := HB3.out.size
          clear hst hb3
          go_wp2_with fail
          refine (HDA.out w3 HB3.out).mono ?_
          rintro e w4 ⟨Ad, cd, rfl, _, _, _, hb4⟩
          have HB4 := Lib.hid (HB3.out.trans (hb4.mono HB3.out.size))
          have HO4 := Lib.hid (ow_below HO3.out hb4)
          have hs4 := HB4.out.size
          clear hb4
          go_wp2_with (first
            | (at_builtin
               refine wpList_append_row _ rfl (.tmp 84) (.tmp 89) _ rfl w2.heap.size 3 i0 _ 1 8 Try.underlying23 hi0 hz0 hz1 hz2 rfl (by omega) (.slice A0 n0 c0) n0 (ints out) rfl HO5.out _ _ 1 cp (ints [xt]) rfl rfl hrp.out (ints_one _) (by simp only [maxLen]; omega) (by omega) HB5.out.size ?_
               intro q6 w6 o6 g6 t6
               obtain ⟨A6, c6, rfl⟩ := ow_slice (m := n0 + 1) o6 rfl
               rw [← ints_append] at o6
               have HB6 : Hid (Below w2.heap.size w2 w6) := HB5.out.grown g6 HB5.out.size (fun g hg => own_base HO5.out g hg)
               have HO6 := Lib.hid o6
               clear o6 g6 t6)
            | (go_at_call 26
               refine (HWN.out w4 p xt HB4.out HXT.out).mono ?_
               rintro e w5 ⟨Ap, cp, rfl, _, _, hrp, hb5⟩
               replace hrp := Lib.hid hrp
               have HO5 := Lib.hid (ow_below HO4.out hb5)
               have HB5 := Lib.hid (HB4.out.trans (hb5.mono HB4.out.size))
               clear hb5))
          go_roundw
          case rel => exact ⟨k + 1, p + 1, n0 + 1, c6, A6, _, by omega, by go_num, by go_num, by omega, rfl, by omega, HRD', HO1, HO6, HB6⟩
          case measure => simp [intOf]; omega
        · have hde := data_ne hkk
          have hkd : kk < dn := by
            have := (List.getElem?_eq_some_iff.1 hkk).1
            rw [HDN.out] at this
            exact this
          have hkr : rules[kk]? = some r := by rw [← hde]; exact hkk
          have hkn' : kk < rn := by
            have := (List.getElem?_eq_some_iff.1 hkr).1
            rw [HRN.out] at this
            exact this
          obtain ⟨br, or, v0, v1, v2, v3, r', rfl, hbr, hxr, HRA, e0, e1, e2, e3⟩ := HR2.out.at_ (k := kk) (by rw [HRN.out]; exact hkn')
          obtain rfl : r' = r := by
            have := hxr.out
            rw [hkr] at this
            injection this with this
            exact this.symm
          obtain ⟨Ab, cb, Am, cm, Aa, ca, Ar, cr, hvs, hmore⟩ := HRA.out
          simp only [List.cons.injEq, and_true] at hvs
          obtain ⟨rfl, rfl, rfl, rfl⟩ := hvs
          have hml : r'.mat.length = m := by omega
          rw [hml] at e1
          have HST' : Hid (IsStep rules text p (kk : Int) (m : Int)) := by
            have := HST.out
            rw [hde] at this
            exact this
          obtain ⟨P, hP⟩ : ∃ P, writS rules text p (kk : Int) = P := ⟨_, rfl⟩
          have hPl : P.length ≤ 16 := by
            have := writS_len HOK.out HST.out
            rw [hde, hP] at this
            exact this
          have HW := HWR.out
          have HO1 : Hid ((out ++ P) ++ outR (dataL rules) text (p + m) = F) := by
            have := HOUT.out
            rw [outR_step HMO.out (by rw [HNT.out]; exact hpn) HST.out, Int.toNat_natCast] at this
            rw [hde, hP, ← hde] at this
            show _ = _
            rw [List.append_assoc]
            exact this
          have HWP : Hid (∀ u, Below w2.heap.size w2 u → Calls Try.prog 26 #[.slice (some ⟨br, or, none⟩) rn c, .slice At nt ct, .int .i64 (p : Int), .int .i64 (kk : Int)] u (RetI u P)) := fun u hu => HW u p (kk : Int) (m : Int) P hu hde hpn HST'.out hP
          obtain ⟨np, hnp⟩ : ∃ n, P.length = n := ⟨_, rfl⟩
          unfold RetI at HWP
          rw [hnp] at HWP hPl
          have HNP := Lib.hid hnp
          clear hmore HRA hkk hkr hde hml hP hnp happ HW e0 e2 e3 hm
          have hne := fun u => run_eq_t3 u (p : Int) (kk : Int) (m : Int)
          go_wp2_with fail
          refine (HPS.out wr p HB.out).mono ?_
          rintro e w3 ⟨i', m', rfl, hst, hb3⟩
          obtain ⟨rfl, rfl⟩ := stepIs_unique HSI.out hst
          have HB3 := Lib.hid (HB.out.trans (hb3.mono hbs))
          have HO3 := Lib.hid (ow_below HO.out hb3)
          have d1 := ((hb3.mono hbs).cell (p := ⟨b, o + k * 3, none⟩) hb).trans c1
          have d2 := ((hb3.mono hbs).cell (p := ⟨b, o + k * 3 + 1, none⟩) hb).trans c2'
          have d3 := ((hb3.mono hbs).cell (p := ⟨b, o + k * 3 + 2, none⟩) hb).trans c3
          have hs3 := HB3.out.size
          clear hst hb3
          go_wp2_with fail
          refine (HDA.out w3 HB3.out).mono ?_
          rintro e w4 ⟨Ad, cd, rfl, _, _, _, hb4⟩
          have HB4 := Lib.hid (HB3.out.trans (hb4.mono HB3.out.size))
          have HO4 := Lib.hid (ow_below HO3.out hb4)
          have hs4 := HB4.out.size
          have f1 := (HB4.out.cell (p := ⟨br, or + kk * 4 + 1, none⟩) hbr).trans e1
          clear hb4
          go_wp2_with (first
            | (at_builtin
               refine wpList_append_row _ rfl (.tmp 84) (.tmp 89) _ rfl w2.heap.size 3 i0 _ 1 8 Try.underlying23 hi0 hz0 hz1 hz2 rfl (by omega) (.slice A0 n0 c0) n0 (ints out) rfl HO5.out _ _ np cp (ints P) rfl (by rw [ints_len, HNP.out, Nat.mul_one]) hrp.out (ints_one _) (by simp only [maxLen]; omega) (by omega) HB5.out.size ?_
               intro q6 w6 o6 g6 t6
               obtain ⟨A6, c6, rfl⟩ := ow_slice (m := n0 + np) o6 rfl
               rw [← ints_append] at o6
               have HB6 : Hid (Below w2.heap.size w2 w6) := HB5.out.grown g6 HB5.out.size (fun g hg => own_base HO5.out g hg)
               have HO6 := Lib.hid o6
               clear o6 g6 t6)
            | (go_at_call 26
               refine (HWP.out w4 HB4.out).mono ?_
               rintro e w5 ⟨Ap, cp, rfl, _, _, hrp, hb5⟩
               replace hrp := Lib.hid hrp
               have HO5 := Lib.hid (ow_below HO4.out hb5)
               have HB5 := Lib.hid (HB4.out.trans (hb5.mono HB4.out.size))
               clear hb5))
          go_roundw
          case rel => exact ⟨k + 1, p + m, n0 + np, c6, A6, _, by omega, by go_num, by go_num, by omega, rfl, by omega, HRD', HO1, HO6, HB6⟩
          case measure => simp [intOf]; omega
      · obtain rfl : nr = k := by omega
        have hpe : ¬ p < nt := by
          have := trR_stop (D := dataL rules) (text := text) (p := p) (R := R) (by rw [HNR.out]; exact HRD.out)
          rw [HNT.out] at this
          exact this
        obtain rfl : nt = p := by omega
        have HOF : Hid (out = F) := by
          have := HOUT.out
          rw [outR_end (by rw [HNT.out]; omega), List.append_nil] at this
          exact this
        obtain ⟨hro, hco1, hco2⟩ := ow_row HO.out
        have HRO := Lib.hid hro
        have hln := HO.out.1
        rw [ints_len, Nat.mul_one] at hln
        have HLN := Lib.hid hln
        have hfl : F.length = n0 := by rw [← HOF.out]; exact hln
        unfold RetI at HAP
        rw [hfl] at HAP
        have HFL := Lib.hid hfl
        rw [HOF.out] at HRO
        clear hro hln hfl hpe
        go_wp2_with fail
        refine (HAP.out wr HB.out).mono ?_
        rintro e w3 ⟨A3, c3, rfl, _, _, hr3, hb3⟩
        have HB3 := Lib.hid (HB.out.trans (hb3.mono hbs))
        have HR3 := Lib.hid hr3
        have HRO3 := Lib.hid (HRO.out.below hb3).lt
        clear hr3 hb3
        go_wp2_with fail
        refine (requal_v A3 A0 c3 c0 _ n0 n0 F F w3 HR3.out HRO3.out HFL.out HFL.out (by simp only [maxLen]; omega) (by simp only [maxLen]; omega) true (by simp)).mono ?_
        rintro e w4 ⟨rfl, hb4⟩
        have HB4 := Lib.hid (HB3.out.trans (hb4.mono HB3.out.size))
        clear hb4
        go_wp2_with fail
        refine (alive_any _).mono ?_
        rintro e w5 ⟨rfl, hb5⟩
        have HB5 := Lib.hid (HB2.out.trans ((HB4.out.trans (hb5.mono HB4.out.size)).mono hs2))
        clear hb5
        go_wp2
        go_ret
        exact ⟨rfl, HB5.out⟩
  · clear hR hT lc lm lct lmt
    go_enter Try.func10, Try.ntmps10
    go_wp2_with fail
    refine (few_any A At c ct rules text w HR.out HLC.out HLM.out false ⟨fun h => (by cases h), fun h => absurd h hf⟩).mono ?_
    rintro e w1 ⟨rfl, hb1⟩
    have HB1 := Lib.hid hb1
    have HR1 := Lib.hid (HR.out.below hb1).lt
    have HT1 := Lib.hid (HT.out.below hb1).lt
    clear hb1
    go_wp2_with fail
    refine (alive_any _).mono ?_
    rintro e w2 ⟨rfl, hb2⟩
    have HB2 := Lib.hid (HB1.out.trans (hb2.mono HB1.out.size))
    clear hb2
    go_wp2
    go_ret
    exact ⟨rfl, HB2.out⟩
theorem own : ownKnob Try.prog.godebug = none := by kernel_rfl
theorem laidOut : laidOutB Try.prog = true := by kernel_rfl
set_option maxRecDepth 100000 in
theorem lifted (os : Os) (started : os.Started) (H : Type) (enc : TypeId × Value → H) :
    ReturnsInHanded {} Try.checked os 10 .any (Rows.transduceFollowsSpec.pre6 enc Try.prog Try.f10 Rows.transduceFollowsRow.domain false) (Rows.transduceFollowsSpec.post enc Try.prog Try.f10 false true false false) := by
  refine returnsInHanded_of_change (C := Try.checked) own started (by kernel_rfl) Try.func10
    (ChangeSpec.witness6 (enc := enc) (C := Try.checked) false ⟨#[], #[.slice none 0 0, .slice none 0 0], []⟩ 8 (by kernel_rfl) (by kernel_rfl) (by kernel_rfl) (by kernel_rfl)) ?_
  intro W base args ds gs before hval0 hW hcnd _
  have hval : ∀ (j : Nat) t v, Try.f10.params[j]? = some t → args[j]? = some v → Value.okWide Try.prog W .any base t v := hval0
  have hW' := hW
  obtain ⟨p, q, hA0, hV, rfl, hfz, hnd⟩ := hW
  have hA : DataW.TrodAll enc Try.prog W 0 (fun _ => true) true Try.f10.params.toList args.toList ds p := hA0
  rw [Try.params10] at hA hval
  obtain ⟨v0, v1, d0, d1, p0, p1, rfl, rfl, rfl, h0, h1⟩ := trodAll_two hA
  obtain ⟨rfl, rfl⟩ := trodVars_none hV
  obtain ⟨ad0, le0, ca0, rfl⟩ := okWide_slice Try.underlying22 (hval 0 22 v0 rfl rfl)
  obtain ⟨fu0, hf0⟩ := h0
  obtain ⟨A0, c0, xs0, hv0, hc0, hm0, hR0⟩ := open_rules (v := .slice ad0 le0 ca0) hf0
  injection hv0 with ea0 eb0 ec0
  subst ea0 eb0 ec0
  obtain ⟨ad1, le1, ca1, rfl⟩ := okWide_slice Try.underlying23 (hval 1 23 v1 rfl rfl)
  obtain ⟨fu1, hf1⟩ := h1
  obtain ⟨A1, c1, xs1, hv1, hc1, hm1, hR1, -⟩ := open_row (v := .slice ad1 le1 ca1) Try.underlying23 Try.underlying3 (by kernel_rfl) hf1
  injection hv1 with ea1 eb1 ec1
  subst ea1 eb1 ec1
  refine (walk W ad0 ca0 xs0 hc0 hm0 hR0 ad1 ca1 xs1 hc1 hm1 hR1).mono fun e W' ⟨he, hb⟩ => ⟨_, he, ?_⟩
  exact law_post laidOut (by rw [Try.params10]; exact of_decide_eq_true (by kernel_rfl)) rfl rfl Try.underlying4 hW' rfl hb
theorem holds : Rows.TransduceFollowsSaid :=
  OpenClaim.holds_of_wide 10 Try.f10 rfl rfl rfl rfl rfl rfl rfl ⟨rfl, rfl, rfl, rfl, rfl⟩ rfl rfl rfl rfl rfl (by kernel_rfl) Try.func10 (by kernel_rfl)
    (of_decide_eq_true (by kernel_rfl)) (by unfold Func.isWrapper; first | (rw [if_pos (by decide +kernel)]; kernel_rfl) | (rw [if_neg (by decide +kernel)]; exact ⟨rfl, rfl⟩))
    (fun os started H enc _ => lifted os started H enc)
end Go.Proofs.Ytledbiabdiijhaa.LFollows
namespace Go.Proofs.Ytledbiabdiijhaa
theorem transduceFollows_holds : Rows.TransduceFollowsSaid := LFollows.holds
end Go.Proofs.Ytledbiabdiijhaa
