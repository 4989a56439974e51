/-
  TransstreamCuts: for every input the law returns true, and its arguments read as before. No condition.
-/
import Derived.Test.YtjohoohdjlajcaaRows
import Derived.Test.YtjohoohdjlajcaaLift
import Derived.Test.YtjohoohdjlajcaaTlo
import Derived.Test.YtjohoohdjlajcaaSa0
import Derived.Test.YtjohoohdjlajcaaTu3
import Derived.Test.YtjohoohdjlajcaaTu5
import Derived.Deep.CutBlock
import Derived.Test.YtjohoohdjlajcaaSb0
namespace Go.Proofs.Ytjohoohdjlajcaa.LCuts
open Go.ChangeShapes Go.WideShapes Go.ChangeAt Go.RowKit Go.UtYtjohoohdjlajcaa Go.Joins
attribute [local go_sem high] cut_lh
set_option maxRecDepth 100000 in
set_option maxHeartbeats 4000000 in
theorem walk (w : World) (A : Option Addr) (c : Nat) (rules : List TR) (lc : rules.length ≤ c) (lm : c ≤ maxLen) (hR : RulesAt w w.heap.size A rules) (At : Option Addr) (ct : Nat) (text : List Int) (lct : text.length ≤ ct) (lmt : ct ≤ maxLen) (hT : Row w w.heap.size At (ints text)) :
    Calls Try.prog 8 #[.slice A rules.length c, .slice At text.length ct] w fun e w' => e = .returned (.bool true) ∧ Below w.heap.size w w' := by
  have HR := Lib.hid hR
  have HT := Lib.hid hT
  have HLC := Lib.hid lc
  have HLM := Lib.hid lm
  have HTC := Lib.hid (And.intro lct lmt)
  obtain ⟨nt, hnt⟩ : ∃ n, text.length = n := ⟨_, rfl⟩
  have HNT := Lib.hid hnt
  have lcn : nt ≤ ct := by omega
  have lmn : ct ≤ 9223372036854775807 := lmt
  rw [hnt]
  clear hR hT lc lm lct lmt hnt
  obtain ⟨i0, hi0, hz0, hz1, hz2⟩ := info_parts in_info
  by_cases hf : ¬ smB rules
  · go_enter Try.func8, Try.ntmps8
    go_wp2_with fail
    refine (smallB_any A c rules w HR.out false ⟨fun h => (by cases h), fun h => absurd h hf⟩).mono ?_
    rintro e w1 ⟨rfl, hb1⟩
    have HB1 := Lib.hid hb1
    have HR1 := Lib.hid (HR.out.below hb1).lt
    clear hb1
    go_wp2_with fail
    refine (awake_any _).mono ?_
    rintro e w2 ⟨rfl, hb2⟩
    have HB2 := Lib.hid (HB1.out.trans (hb2.mono HB1.out.size))
    clear hb2
    go_wp2
    go_ret
    exact ⟨rfl, HB2.out⟩
  replace hf := Classical.not_not.1 hf
  by_cases hg : 30 < nt
  · go_enter Try.func8, Try.ntmps8
    go_wp2_with fail
    refine (smallB_any A c rules w HR.out true ⟨fun _ => hf, fun _ => rfl⟩).mono ?_
    rintro e w1 ⟨rfl, hb1⟩
    have HB1 := Lib.hid hb1
    have HR1 := Lib.hid (HR.out.below hb1).lt
    clear hb1
    go_wp2_with fail
    refine (awake_any _).mono ?_
    rintro e w2 ⟨rfl, hb2⟩
    have HB2 := Lib.hid (HB1.out.trans (hb2.mono HB1.out.size))
    clear hb2
    go_wp2
    go_ret
    exact ⟨rfl, HB2.out⟩
  have HF := Lib.hid hf
  have hd0 : decide (30 < nt) = false := decide_eq_false hg
  go_enter Try.func8, Try.ntmps8
  go_wp2_with fail
  refine (smallB_any A c rules w HR.out true ⟨fun _ => hf, fun _ => rfl⟩).mono ?_
  rintro e w1 ⟨rfl, hb1⟩
  have HB1 := Lib.hid hb1
  have HR1 := Lib.hid (HR.out.below hb1).lt
  clear hb1
  have HT1 := Lib.hid (HT.out.below HB1.out).lt
  clear hf
  go_wp2_with fail
  refine (new_g A c rules.length w.heap.size rules w1 HR1.out HF.out rfl HLC.out HLM.out HB1.out.size).mono ?_
  rintro e w2 (⟨x, hx0, HX, rfl, HBx⟩ | ⟨gs, bf, ah, rfl, HGS, H0, HOK, HBA, HS0, HBx⟩)
  · have HB2 := Lib.hid (HB1.out.trans (HBx.out.mono HB1.out.size))
    have HR2 := Lib.hid (HR1.out.below HBx.out).lt
    go_wp2_with fail
    refine (new_g A c rules.length w.heap.size rules w2 HR2.out HF.out rfl HLC.out HLM.out HB2.out.size).mono ?_
    rintro e w3 (⟨x', hx0', HX', rfl, HBy⟩ | ⟨gt, bf', ah', rfl, HGT, H0', _⟩)
    · obtain rfl : x = x' := HX.out.symm.trans HX'.out
      have HB3 := Lib.hid (HB2.out.trans (HBy.out.mono HB2.out.size))
      go_wp2_with fail
      refine (awake_any _).mono ?_
      rintro e w4 ⟨rfl, hb4⟩
      have HB4 := Lib.hid (HB3.out.trans (hb4.mono HB3.out.size))
      clear hb4
      go_wp2
      go_ret
      exact ⟨rfl, HB4.out⟩
    · exact absurd (HX.out.symm.trans H0'.out) hx0
  have HB2 := Lib.hid (HB1.out.trans (HBx.out.mono HB1.out.size))
  have HR2 := Lib.hid (HR1.out.below HBx.out).lt
  have HSE := Lib.hid (HS0.out (fun _ => False) (fun _ h => h.elim))
  go_wp2_with fail
  refine (new_g A c rules.length w.heap.size rules w2 HR2.out HF.out rfl HLC.out HLM.out HB2.out.size).mono ?_
  rintro e w3 (⟨x', hx0', HX', rfl, HBy⟩ | ⟨gt, bf', ah', rfl, HGT, H0', HOK', HBA', HT0, HBy⟩)
  · exact absurd (HX'.out.symm.trans H0.out) hx0'
  obtain rfl : bf = bf' := HBA.out.1.symm.trans HBA'.out.1
  obtain rfl : ah = ah' := HBA.out.2.symm.trans HBA'.out.2
  have HB3 := Lib.hid (HB2.out.trans (HBy.out.mono HB2.out.size))
  have HSs3 : Hid (StrAt w3 (fun y => y = gs) (fun x => (Value.slice none 0 0).ownBlock = some x ∨ x = gt) w.heap.size gs rules bf ah [] 0) := (HSE.out.newX (X' := fun x => (Value.slice none 0 0).ownBlock = some x ∨ x = gt) (fun x h => by
    rcases h with h | h
    · simp [Value.ownBlock] at h
    · exact .inl (h ▸ HGT.out.1))).keep HBy.out.size (fun b hb _ => HBy.out.block b hb)
  have HSt3 : Hid (StrAt w3 (fun y => y = gt) (fun x => (Value.slice none 0 0).ownBlock = some x ∨ x = gs) w.heap.size gt rules bf ah [] 0) := HT0.out _ (fun x h => by
    rcases h with h | h
    · simp [Value.ownBlock] at h
    · exact h ▸ HGS.out.2)
  go_wp2_with fail
  go_loopw [9, 10] (fun va i wr => ∃ (k p na ca : Nat) (Aa : Option Addr) (Y : Nat → Prop) (out : List Int), k ≤ nt ∧ i = .int .i64 (k : Int) ∧ va = .slice Aa na ca ∧ na ≤ 16 * k ∧ Hid (out.length = na) ∧ Hid (Got rules ah (text.take k) out p) ∧ Hid (wr.ownsRow w.heap.size 3 1 (.slice Aa na ca) na (ints out)) ∧ Hid (StrAt wr Y (fun x => (Value.slice Aa na ca).ownBlock = some x ∨ x = gt) w.heap.size gs rules bf ah (text.take k) p) ∧ Hid (StrAt wr (fun y => y = gt) (fun x => (Value.slice Aa na ca).ownBlock = some x ∨ Y x) w.heap.size gt rules bf ah [] 0) ∧ Hid (Below w.heap.size w wr)) (fun _ i _ => nt - (intOf i).toNat)
  case atStart => exact ⟨0, 0, 0, 0, none, fun y => y = gs, [], by omega, rfl, rfl, by omega, rfl, Got.nil HOK.out, own_nil _, HSs3, HSt3, HB3⟩
  case round =>
    obtain ⟨k, p, na, ca, Aa, Y, out, hk, rfl, rfl, hol, HNA, HG, HO, HSs, HSt, HB⟩ := hrel
    have hbs := HB.out.size
    by_cases hkn : k < nt
    · have HXL : ∀ x, (fun x => (Value.slice Aa na ca).ownBlock = some x ∨ x = gt) x → x < wr.heap.size := fun x h => by
        rcases h with h | h
        · exact (own_lt HO.out x h).2.1
        · exact h ▸ (HSt.out.own gt rfl).2.1
      obtain ⟨y, hy⟩ : ∃ y, text[k]? = some y := ⟨_, List.getElem?_eq_getElem (by rw [HNT.out]; exact hkn)⟩
      have HTK : Hid (text.take k ++ [y] = text.take (k + 1)) := by
        show _ = _
        obtain ⟨h1, h2⟩ := List.getElem?_eq_some_iff.1 hy
        rw [List.take_succ_eq_append_getElem h1, h2]
      have HTL : Hid ((text.take k).length = k) := by
        show _ = _
        rw [List.length_take, HNT.out]
        omega
      have HTY : Hid (Row wr wr.heap.size (cutA At ct k 1) (ints [y])) := by
        have h1 := ((HT.out.below HB.out).tail (l := k) (c := ct) (by rw [HNT.out]; exact lcn)).init (k := 1)
        obtain ⟨h2, h3⟩ := List.getElem?_eq_some_iff.1 hy
        rw [List.drop_eq_getElem_cons h2, h3] at h1
        exact h1.lt
      have k1 : (0 : Int) ≤ (k : Int) := by omega
      have k2 : (k : Int) ≤ (k : Int) + 1 := by omega
      have k3 : (k : Int) + 1 ≤ (ct : Int) := by omega
      have k4 : ((k : Int) + 1).toNat - k = 1 := by omega
      have k5 : k + 1 - k = 1 := by omega
      clear hy
      go_wp2_with fail
      try rw [k4]
      refine (write_g Y (fun x => (Value.slice Aa na ca).ownBlock = some x ∨ x = gt) w.heap.size gs rules bf ah (text.take k) [y] out p 1 (cutA At ct k 1) _ wr HSs.out HXL HOK.out HTY.out rfl (by rw [HTL.out]; omega) HG.out).mono ?_
      rintro e w5 ⟨A5, n5, c5, Y5, ro, p5, rfl, hn5, HC5, HL5, HG5, HR5, HS5, HST⟩
      rw [HTK.out] at HG5 HS5
      have HB5 := Lib.hid (HB.out.trans (HST.out.1.mono (Nat.le_refl _)))
      have hbs5 := HB5.out.size
      have HO5 := Lib.hid (own_step HO.out HSs.out (fun x hx => .inl hx) HST.out)
      have HSt4 := Lib.hid (HSt.out.newX (X' := fun x => (Value.slice Aa na ca).ownBlock = some x ∨ (Y x ∨ Y5 x)) (fun x h => by
        rcases h with h | h | h
        · exact .inr (.inl h)
        · exact .inr (.inr h)
        · rcases HST.out.2.1 x h with h | h
          · exact .inr (.inr h)
          · exact .inl h))
      have HSt5 : Hid (StrAt w5 (fun y => y = gt) (fun x => (Value.slice Aa na ca).ownBlock = some x ∨ Y5 x) w.heap.size gt rules bf ah [] 0) := (HSt4.out.keep HST.out.1.size (fun b hb hx => HST.out.2.2 b hb (fun h => hx (.inr (.inl h))))).newX (fun x h => .inr (by
        rcases h with h | h
        · exact .inl h
        · exact .inr (.inr h)))
      go_wp2_with (first
        | (at_builtin
           refine wpList_append_row _ rfl (.tmp 84) (.tmp 85) _ rfl w.heap.size 3 i0 _ 1 8 Try.underlying31 hi0 hz0 hz1 hz2 rfl (by omega) (.slice Aa na ca) na (ints out) rfl HO5.out _ _ n5 c5 (ints ro) rfl (by rw [ints_len, HL5.out, Nat.mul_one]) (Row.of_era HR5.out) (ints_one _) (by simp only [maxLen]; omega) (by omega) hbs5 ?_
           intro v w6 o1 g1 t1
           rw [← ints_append] at o1
           obtain ⟨A6, c6, rfl⟩ := ow_slice (m := na + n5) o1 rfl
           have O1 := Lib.hid o1
           have G1 := Lib.hid g1
           have T1 := Lib.hid t1
           clear o1 g1 t1))
      have HSs6 := Lib.hid (HS5.out.app G1.out T1.out)
      have HSt6 := Lib.hid (HSt5.out.app G1.out T1.out)
      have HB6 := Lib.hid (HB5.out.grown G1.out hbs5 (fun x hx => own_base HO5.out x hx))
      have HL6 : Hid ((out ++ ro).length = na + n5) := by
        show _ = _
        rw [List.length_append, HNA.out, HL5.out]
      have hl6 := HG5.out.len HOK.out
      rw [HL6.out, List.length_take, HNT.out] at hl6
      go_roundw
      case rel => exact ⟨k + 1, p5, na + n5, c6, A6, Y5, out ++ ro, by omega, by go_num, rfl, by omega, HL6, HG5, O1, HSs6, HSt6, HB6⟩
      case measure => simp [intOf]; omega
  
    · obtain rfl : nt = k := by omega
      have HTK : Hid (text.take nt = text) := List.take_of_length_le (by rw [HNT.out]; exact Nat.le_refl _)
      rw [HTK.out] at HG HSs
      have HXL : ∀ x, (fun x => (Value.slice Aa na ca).ownBlock = some x ∨ Y x) x → x < wr.heap.size := fun x h => by
        rcases h with h | h
        · exact (own_lt HO.out x h).2.1
        · exact (HSs.out.own x h).2.1
      have HTX := Lib.hid (HT.out.below HB.out).lt
      go_wp2_with fail
      refine (write_g _ (fun x => (Value.slice Aa na ca).ownBlock = some x ∨ Y x) w.heap.size gt rules bf ah [] text [] 0 nt At ct wr HSt.out HXL HOK.out HTX.out HNT.out (by simp; omega) (Got.nil HOK.out)).mono ?_
      rintro e w5 ⟨A5, n5, c5, Y5, ro, p5, rfl, hn5, HC5, HL5, HG5, HR5, HS5, HST⟩
      rw [List.nil_append, List.nil_append] at HG5
      rw [List.nil_append] at HS5
      obtain ⟨hu1, hu2⟩ := HG.out.unique HG5.out
      subst hu1 hu2
      obtain rfl : na = n5 := HNA.out.symm.trans HL5.out
      have HB5 := Lib.hid (HB.out.trans (HST.out.1.mono (Nat.le_refl _)))
      have HO5 := Lib.hid (own_step HO.out HSt.out (fun x hx => .inl hx) HST.out)
      have HSs4 := Lib.hid (HSs.out.newX (X' := fun x => (Value.slice Aa na ca).ownBlock = some x ∨ (x = gt ∨ Y5 x)) (fun x h => by
        rcases h with h | h | h
        · exact .inr (.inl h)
        · exact .inr (.inr h)
        · rcases HST.out.2.1 x h with h | h
          · exact .inr (.inr h)
          · exact .inl h))
      have HSs5 := Lib.hid (HSs4.out.keep HST.out.1.size (fun b hb hx => HST.out.2.2 b hb (fun h => hx (.inr (.inl h)))))
      have HRb := Lib.hid (Row.of_era HR5.out)
      go_wp2_with fail
      refine (requal_v Aa A5 ca c5 _ na na out out w5 (ow_row HO5.out).1 HRb.out HNA.out HNA.out (by simp only [maxLen]; omega) (by simp only [maxLen]; omega) true (by simp)).mono ?_
      rintro e w6 ⟨rfl, hb6⟩
      have HB6 := Lib.hid (HB5.out.trans (hb6.mono HB5.out.size))
      have HSs6 := Lib.hid (HSs5.out.keep hb6.size (fun b hb _ => hb6.block b hb))
      have HSt6 := Lib.hid (HS5.out.keep hb6.size (fun b hb _ => hb6.block b hb))
      clear hb6
      go_wp2_with fail
      refine (pend_g Y _ w.heap.size gs rules bf ah text p w6 HSs6.out (by rw [HNT.out]; omega)).mono ?_
      rintro e w7 ⟨A7, n7, c7, rfl, HN7, hn7, HR7, HBL7⟩
      have HB7 := Lib.hid (HB6.out.trans (HBL7.out.mono HB6.out.size))
      have HSs7 := Lib.hid (HSs6.out.keep HBL7.out.size (fun b hb _ => HBL7.out.block b hb))
      have HSt7 := Lib.hid (HSt6.out.keep HBL7.out.size (fun b hb _ => HBL7.out.block b hb))
      go_wp2_with fail
      refine (pend_g Y5 _ w.heap.size gt rules bf ah text p w7 HSt7.out (by rw [HNT.out]; omega)).mono ?_
      rintro e w8 ⟨A8, n8, c8, rfl, HN8, hn8, HR8, HBL8⟩
      obtain rfl : n7 = n8 := HN7.out.trans HN8.out.symm
      have HB8 := Lib.hid (HB7.out.trans (HBL8.out.mono HB7.out.size))
      have HSs8 := Lib.hid (HSs7.out.keep HBL8.out.size (fun b hb _ => HBL8.out.block b hb))
      have HSt8 := Lib.hid (HSt7.out.keep HBL8.out.size (fun b hb _ => HBL8.out.block b hb))
      have HR78 := Lib.hid (HR7.out.below HBL8.out).lt
      go_wp2_with fail
      refine (requal_v A7 A8 c7 c8 _ n7 n7 (text.drop p) (text.drop p) w8 HR78.out HR8.out (by rw [List.length_drop]; exact HN7.out.symm) (by rw [List.length_drop]; exact HN7.out.symm) (by simp only [maxLen]; omega) (by simp only [maxLen]; omega) true (by simp)).mono ?_
      rintro e w9 ⟨rfl, hb9⟩
      have HB9 := Lib.hid (HB8.out.trans (hb9.mono HB8.out.size))
      have HSs9 := Lib.hid (HSs8.out.keep hb9.size (fun b hb _ => hb9.block b hb))
      have HSt9 := Lib.hid (HSt8.out.keep hb9.size (fun b hb _ => hb9.block b hb))
      clear hb9
      go_wp2_with fail
      refine (close_g Y _ w.heap.size gs rules bf ah text p w9 HSs9.out HOK.out (by rw [HNT.out]; omega) (HG.out.le HOK.out).1).mono ?_
      rintro e wa ⟨Aa1, na1, ca1, ra, rfl, hna, HCa, HLa, HPa, HRa, HKa, HBa', HFa⟩
      have HBa := Lib.hid (HB9.out.trans HBa'.out)
      have HSta := Lib.hid (HSt9.out.keep HFa.out.size (fun b hb hx => HFa.out.2 b hb (fun h => hx (.inr (h ▸ HSs9.out.gY)))))
      go_wp2_with fail
      refine (close_g Y5 _ w.heap.size gt rules bf ah text p wa HSta.out HOK.out (by rw [HNT.out]; omega) (HG.out.le HOK.out).1).mono ?_
      rintro e wb ⟨Ab, nb, cb, rb, rfl, hnb, HCb, HLb, HPb, HRb2, HKb, HBb', HFb⟩
      have HBb := Lib.hid (HBa.out.trans HBb'.out)
      obtain rfl : ra = rb := HPa.out.symm.trans HPb.out
      obtain rfl : na1 = nb := HLa.out.symm.trans HLb.out
      have hgt := (HSt9.out.own gt HSt9.out.gY).2.1
      have HRA : Hid (Row wb wb.heap.size Aa1 (ints ra)) := Row.more (B := wa.heap.size) (HRa.out.era_keep (E' := fun _ => False) (fun x hx hE => HFb.out.2 x hx (fun e => hE (e ▸ hgt))) (fun _ _ h => h.elim)).of_era HFb.out.size
      have HRB := Lib.hid (Row.of_era HRb2.out)
      go_wp2_with fail
      refine (requal_v Aa1 Ab ca1 cb _ na1 na1 ra ra wb HRA.out HRB.out HLa.out HLa.out (by simp only [maxLen]; omega) (by simp only [maxLen]; omega) true (by simp)).mono ?_
      rintro e wc ⟨rfl, hbc⟩
      have HBc := Lib.hid (HBb.out.trans (hbc.mono HBb.out.size))
      clear hbc
      go_wp2_with fail
      refine (awake_any _).mono ?_
      rintro e wd ⟨rfl, hbd⟩
      have HBd := Lib.hid (HBc.out.trans (hbd.mono HBc.out.size))
      clear hbd
      go_wp2
      go_ret
      exact ⟨rfl, HBd.out⟩
theorem own : ownKnob Try.prog.godebug = none := by kernel_rfl
theorem laidOut : laidOutB Try.prog = true := by kernel_rfl
set_option maxRecDepth 100000 in
theorem lifted (os : Os) (started : os.Started) (H : Type) (enc : TypeId × Value → H) :
    ReturnsInHanded {} Try.checked os 8 .any (Rows.transstreamCutsSpec.pre6 enc Try.prog Try.f8 Rows.transstreamCutsRow.domain false) (Rows.transstreamCutsSpec.post enc Try.prog Try.f8 false true false false) := by
  refine returnsInHanded_of_change (C := Try.checked) own started (by kernel_rfl) Try.func8
    (ChangeSpec.witness6 (enc := enc) (C := Try.checked) false ⟨#[], #[.slice none 0 0, .slice none 0 0], []⟩ 8 (by kernel_rfl) (by kernel_rfl) (by kernel_rfl) (by kernel_rfl)) ?_
  intro W base args ds gs before hval0 hW hcnd _
  have hval : ∀ (j : Nat) t v, Try.f8.params[j]? = some t → args[j]? = some v → Value.okWide Try.prog W .any base t v := hval0
  have hW' := hW
  obtain ⟨p, q, hA0, hV, rfl, hfz, hnd⟩ := hW
  have hA : DataW.TrodAll enc Try.prog W 0 (fun _ => true) true Try.f8.params.toList args.toList ds p := hA0
  rw [Try.params8] at hA hval
  obtain ⟨v0, v1, d0, d1, p0, p1, rfl, rfl, rfl, h0, h1⟩ := trodAll_two hA
  obtain ⟨rfl, rfl⟩ := trodVars_none hV
  obtain ⟨ad0, le0, ca0, rfl⟩ := okWide_slice Try.underlying22 (hval 0 22 v0 rfl rfl)
  obtain ⟨fu0, hf0⟩ := h0
  obtain ⟨A0, c0, xs0, hv0, hc0, hm0, hR0⟩ := open_rules (v := .slice ad0 le0 ca0) hf0
  injection hv0 with ea0 eb0 ec0
  subst ea0 eb0 ec0
  obtain ⟨ad1, le1, ca1, rfl⟩ := okWide_slice Try.underlying31 (hval 1 31 v1 rfl rfl)
  obtain ⟨fu1, hf1⟩ := h1
  obtain ⟨A1, c1, xs1, hv1, hc1, hm1, hR1, -⟩ := open_row (v := .slice ad1 le1 ca1) Try.underlying31 Try.underlying3 (by kernel_rfl) hf1
  injection hv1 with ea1 eb1 ec1
  subst ea1 eb1 ec1
  refine (walk W ad0 ca0 xs0 hc0 hm0 hR0 ad1 ca1 xs1 hc1 hm1 hR1).mono fun e W' ⟨he, hb⟩ => ⟨_, he, ?_⟩
  exact law_post laidOut (by rw [Try.params8]; exact of_decide_eq_true (by kernel_rfl)) rfl rfl Try.underlying4 hW' rfl hb
theorem holds : Rows.TransstreamCutsSaid :=
  OpenClaim.holds_of_wide 8 Try.f8 rfl rfl rfl rfl rfl rfl rfl ⟨rfl, rfl, rfl, rfl, rfl⟩ rfl rfl rfl rfl rfl (by kernel_rfl) Try.func8 (by kernel_rfl)
    (of_decide_eq_true (by kernel_rfl)) (by unfold Func.isWrapper; first | (rw [if_pos (by decide +kernel)]; kernel_rfl) | (rw [if_neg (by decide +kernel)]; exact ⟨rfl, rfl⟩))
    (fun os started H enc _ => lifted os started H enc)
end Go.Proofs.Ytjohoohdjlajcaa.LCuts
namespace Go.Proofs.Ytjohoohdjlajcaa
theorem transstreamCuts_holds : Rows.TransstreamCutsSaid := LCuts.holds
end Go.Proofs.Ytjohoohdjlajcaa
