/-
  TransstreamWrites: for every input the law returns true, and its arguments read as before. No condition.
-/
import Derived.Test.YtjohoohdjlajcaaRows
import Derived.Test.YtjohoohdjlajcaaLift
import Derived.Test.YtjohoohdjlajcaaTlo
import Derived.Test.YtjohoohdjlajcaaSa0
import Derived.Test.YtjohoohdjlajcaaTu3
import Derived.Test.YtjohoohdjlajcaaTu5
import Derived.Deep.CutBlock
import Derived.Test.YtjohoohdjlajcaaSb0
import Derived.Test.YtjohoohdjlajcaaSr1
namespace Go.Proofs.Ytjohoohdjlajcaa.LWrites
open Go.ChangeShapes Go.WideShapes Go.ChangeAt Go.RowKit Go.UtYtjohoohdjlajcaa Go.Joins
set_option maxRecDepth 100000 in
set_option maxHeartbeats 4000000 in
theorem walk (w : World) (A : Option Addr) (c : Nat) (rules : List TR) (lc : rules.length ≤ c) (lm : c ≤ maxLen) (hR : RulesAt w w.heap.size A rules) (Am : Option Addr) (cm : Nat) (texts : List (List Int)) (_lcm : texts.length ≤ cm) (_lmm : cm ≤ maxLen) (hM : Rows2 w w.heap.size Am texts) :
    Calls Try.prog 6 #[.slice A rules.length c, .slice Am texts.length cm] w fun e w' => e = .returned (.bool true) ∧ Below w.heap.size w w' := by
  have HR := Lib.hid hR
  have HM := Lib.hid hM
  have HLC := Lib.hid lc
  have HLM := Lib.hid lm
  clear hR hM lc lm _lcm _lmm
  obtain ⟨i0, hi0, hz0, hz1, hz2⟩ := info_parts in_info
  by_cases hf : ¬ smB rules
  · go_enter Try.func6, Try.ntmps6
    go_wp2_with fail
    refine (smallB_any A c rules w HR.out false ⟨fun h => (by cases h), fun h => absurd h hf⟩).mono ?_
    rintro e w1 ⟨rfl, hb1⟩
    have HB1 := Lib.hid hb1
    have HR1 := Lib.hid (HR.out.below hb1).lt
    clear hb1
    go_wp2_with fail
    refine (awake_any _).mono ?_
    rintro e w2 ⟨rfl, hb2⟩
    have HB2 := Lib.hid (HB1.out.trans (hb2.mono HB1.out.size))
    clear hb2
    go_wp2
    go_ret
    exact ⟨rfl, HB2.out⟩
  replace hf := Classical.not_not.1 hf
  by_cases hg : ¬ (texts.length ≤ 8 ∧ ∀ t ∈ texts, t.length ≤ 30)
  · go_enter Try.func6, Try.ntmps6
    go_wp2_with fail
    refine (smallB_any A c rules w HR.out true ⟨fun _ => hf, fun _ => rfl⟩).mono ?_
    rintro e w1 ⟨rfl, hb1⟩
    have HB1 := Lib.hid hb1
    have HR1 := Lib.hid (HR.out.below hb1).lt
    clear hb1
    have HM1 := Lib.hid (HM.out.below HB1.out).lt
    go_wp2_with fail
    refine (few52_any Am cm texts w1 HM1.out false ⟨fun h => (by cases h), fun h => absurd h hg⟩).mono ?_
    rintro e w1' ⟨rfl, hw1⟩
    subst w1'
    go_wp2_with fail
    refine (awake_any _).mono ?_
    rintro e w2 ⟨rfl, hb2⟩
    have HB2 := Lib.hid (HB1.out.trans (hb2.mono HB1.out.size))
    clear hb2
    go_wp2
    go_ret
    exact ⟨rfl, HB2.out⟩
  replace hg := Classical.not_not.1 hg
  have h8 := hg.1
  have HT30 := Lib.hid hg.2
  have HF := Lib.hid hf
  go_enter Try.func6, Try.ntmps6
  go_wp2_with fail
  refine (smallB_any A c rules w HR.out true ⟨fun _ => hf, fun _ => rfl⟩).mono ?_
  rintro e w1 ⟨rfl, hb1⟩
  have HB1 := Lib.hid hb1
  have HR1 := Lib.hid (HR.out.below hb1).lt
  clear hb1
  have HM1 := Lib.hid (HM.out.below HB1.out).lt
  go_wp2_with fail
  refine (few52_any Am cm texts w1 HM1.out true ⟨fun _ => hg, fun _ => rfl⟩).mono ?_
  rintro e w1' ⟨rfl, hw1⟩
  subst w1'
  have HM0 := HM
  clear hg hf
  go_wp2_with fail
  refine (new_g A c rules.length w.heap.size rules w1 HR1.out HF.out rfl HLC.out HLM.out HB1.out.size).mono ?_
  rintro e w2 (⟨x, hx0, HX, rfl, HBx⟩ | ⟨gs, bf, ah, rfl, HGS, H0, HOK, HBA, HS0, HBx⟩)
  · have HB2 := Lib.hid (HB1.out.trans (HBx.out.mono HB1.out.size))
    have HR2 := Lib.hid (HR1.out.below HBx.out).lt
    go_wp2_with fail
    refine (rnew_any A c rules w2 HR2.out HF.out.smR HLC.out HLM.out).mono ?_
    rintro e w3 ⟨hb3, hnew⟩
    have HB3 := Lib.hid (HB2.out.trans (hb3.mono HB2.out.size))
    have HBL3 := Lib.hid hb3
    clear hb3
    rcases hnew with ⟨_, rfl⟩ | ⟨h1, _⟩
    · rw [HX.out]
      go_wp2_with fail
      refine (awake_any _).mono ?_
      rintro e w4 ⟨rfl, hb4⟩
      have HB4 := Lib.hid (HB3.out.trans (hb4.mono HB3.out.size))
      clear hb4
      go_wp2
      go_ret
      exact ⟨rfl, HB4.out⟩
    · exact absurd (HX.out.symm.trans h1) hx0
  have HB2 := Lib.hid (HB1.out.trans (HBx.out.mono HB1.out.size))
  have HR2 := Lib.hid (HR1.out.below HBx.out).lt
  go_wp2_with fail
  refine (rnew_any A c rules w2 HR2.out HF.out.smR HLC.out HLM.out).mono ?_
  rintro e w3 ⟨hb3, hnew⟩
  have HB3 := Lib.hid (HB2.out.trans (hb3.mono HB2.out.size))
  have HBL3 := Lib.hid hb3
  clear hb3
  rcases hnew with ⟨h1, _⟩ | ⟨_, gr, rfl, hgr, hkr⟩
  · exact absurd H0.out h1
  rw [HBA.out.2] at hkr
  have HKR := Lib.hid hkr
  have HGR := Lib.hid hgr
  have hgr3 := hkr.lt
  obtain ⟨nr, hnr⟩ : ∃ n, rules.length = n := ⟨_, rfl⟩
  have HNR := Lib.hid hnr
  rw [hnr] at HKR ⊢
  have HLC' : Hid (nr ≤ c) := by rw [← hnr]; exact HLC.out
  clear hkr hgr hnr
  have HS3 : Hid (StrAt w3 (fun y => y = gs) (fun x => x = gr) w.heap.size gs rules bf ah [] 0) := ((HS0.out (fun _ => False) (fun _ h => h.elim)).newX (X' := fun x => x = gr) (fun x h => .inl (h ▸ HGR.out))).keep HBL3.out.size (fun b hb _ => HBL3.out.block b hb)
  have HT3 : Hid (RefAt w3 (fun x => x = gs) gr A c nr ah [] 0) := ⟨none, 0, 0, HKR.out, rfl, Nat.le_refl _, by simp [maxLen], Row.nil, Nat.le_refl _, fun h => by have := HGS.out.2; have := HGR.out; omega⟩
  have hgw : w.heap.size ≤ gr := by have := HGR.out; have := HB2.out.size; omega
  go_wp2_with fail
  go_loopw [9] (fun i wr => ∃ (k p : Nat) (Y : Nat → Prop) (inp out : List Int), k ≤ texts.length ∧ i = .int .i64 (k : Int) ∧ inp.length ≤ 30 * k ∧ Hid (Got rules ah inp out p) ∧ Hid (StrAt wr Y (fun x => x = gr) w.heap.size gs rules bf ah inp p) ∧ Hid (RefAt wr Y gr A c nr ah inp p) ∧ Hid (Below w.heap.size w wr)) (fun i _ => texts.length - (intOf i).toNat)
  case atStart => exact ⟨0, 0, _, [], [], by omega, rfl, by simp, Got.nil HOK.out, HS3, HT3, HB3⟩
  case round =>
    obtain ⟨k, p, Y, inp, out, hk, rfl, hil, HG, HS, HT, HB⟩ := hrel
    have HXL : ∀ x, (fun x => x = gr) x → x < wr.heap.size := fun x h => by
      obtain ⟨_, _, _, h1, _⟩ := HT.out
      exact h ▸ h1.lt
    by_cases hkn : k < texts.length
    · obtain ⟨b, o, A', c', t, rfl, hb, hx, cc, l1, l2, ht⟩ := (HM0.out.below HB.out).at_ (k := k) hkn
      have htl := HT30.out t (List.mem_of_getElem? hx.out)
      obtain ⟨m, hm⟩ : ∃ m, t.length = m := ⟨_, rfl⟩
      rw [hm] at cc htl l1
      have HTL := Lib.hid hm
      have HTB := Lib.hid ht
      have HTW := Lib.hid (ht.more HB.out.size)
      have hbs := HB.out.size
      clear hm ht
      go_wp2_with fail
      refine (write_g Y _ w.heap.size gs rules bf ah inp t out p m A' c' wr HS.out HXL HOK.out HTW.out HTL.out (by omega) HG.out).mono ?_
      rintro e w5 ⟨A5, n5, c5, Y5, ro, p5, rfl, hn5, HC5, HL5, HG5, HR5, HS5, HST⟩
      have HB5 := Lib.hid (HB.out.trans (HST.out.1.mono (Nat.le_refl _)))
      have hbs5 := HB5.out.size
      have HI5 : Hid ((inp ++ t).length = inp.length + m) := by
        show _ = _
        rw [List.length_append, HTL.out]
      have cc5 := (HST.out.1.cell (p := ⟨b, o + k, none⟩) hb).trans cc
      have HT5 : Hid (RefAt w5 Y5 gr A c nr ah inp p) := HT.out.keep HST.out.1.size (fun x hx hn => HST.out.2.2 x hx hn) (fun x hx => (HST.out.2.1 x hx).symm)
      have HTB5 := Lib.hid (HTB.out.below HST.out.1)
      have HRW := Lib.hid (rwrite_any Y5 w.heap.size gr A c nr bf ah rules inp t out p m A' c' w5 HT5.out (fun x hx => (HS5.out.own x hx).2.1) HOK.out (HR.out.below HB5.out) hgw HNR.out HLC'.out HLM.out HTB5.out HTL.out (by omega) HG.out)
      go_wp2_with fail
      refine HRW.out.mono ?_
      rintro e w6 ⟨A6, n6, c6, ro6, p6, rfl, hn6, HL6, HG6, HR6, HT6, HF6⟩
      obtain ⟨hu1, hu2⟩ := HG5.out.unique HG6.out
      have hu3 := List.append_cancel_left hu1
      subst hu2 hu3
      obtain rfl : n5 = n6 := HL5.out.symm.trans HL6.out
      clear hu1
      have HB6 : Hid (Below w.heap.size w w6) := HB5.out.trans (HF6.out.1.mono hgw)
      have HS6 := Lib.hid (HS5.out.keep HF6.out.size (fun x hx hn => HF6.out.2 x hx hn))
      have hgr5 : gr < w5.heap.size := by
        obtain ⟨_, _, _, h1, _⟩ := HT5.out
        exact h1.lt
      have HA6 : Hid (Row w6 w6.heap.size A5 (ints ro)) := Row.more (B := w5.heap.size) (HR5.out.era_keep (E' := fun _ => False) (fun x hx hE => HF6.out.2 x hx (fun e => hE (.inl (by have := HXL gr rfl; omega)))) (fun _ _ h => h.elim)).of_era HF6.out.size
      have HA6' := Lib.hid HR6.out.of_era
      go_wp2_with fail
      refine (requal_v A5 A6 c5 c6 _ n5 n5 ro ro w6 HA6.out HA6'.out HL5.out HL5.out (by simp only [maxLen]; omega) (by simp only [maxLen]; omega) true (by simp)).mono ?_
      rintro e w7 ⟨rfl, hb7⟩
      have HB7 := Lib.hid (HB6.out.trans (hb7.mono HB6.out.size))
      have HS7 := Lib.hid (HS6.out.keep hb7.size (fun b hb _ => hb7.block b hb))
      have HT7 : Hid (RefAt w7 Y5 gr A c nr ah (inp ++ t) p5) := HT6.out.keep hb7.size (fun b hb _ => hb7.block b hb) (fun x hx => .inr hx)
      clear hb7
      go_wp2_with fail
      refine (pend_g Y5 _ w.heap.size gs rules bf ah (inp ++ t) p5 w7 HS7.out (by rw [HI5.out]; omega)).mono ?_
      rintro e w8 ⟨A8, n8, c8, rfl, HN8, hn8, HR8, HBL8⟩
      have HB8 := Lib.hid (HB7.out.trans (HBL8.out.mono HB7.out.size))
      have HS8 := Lib.hid (HS7.out.keep HBL8.out.size (fun b hb _ => HBL8.out.block b hb))
      have HT8 : Hid (RefAt w8 Y5 gr A c nr ah (inp ++ t) p5) := HT7.out.keep HBL8.out.size (fun b hb _ => HBL8.out.block b hb) (fun x hx => .inr hx)
      go_wp2_with fail
      refine (rpend_any Y5 gr A c nr ah (inp ++ t) p5 w8 HT8.out).mono ?_
      rintro e w9 ⟨A9, n9, c9, rfl, HN9, HR9, HBL9⟩
      obtain rfl : n8 = n9 := HN8.out.trans HN9.out.symm
      have HB9 := Lib.hid (HB8.out.trans (HBL9.out.mono HB8.out.size))
      have HS9 := Lib.hid (HS8.out.keep HBL9.out.size (fun b hb _ => HBL9.out.block b hb))
      have HT9 : Hid (RefAt w9 Y5 gr A c nr ah (inp ++ t) p5) := HT8.out.keep HBL9.out.size (fun b hb _ => HBL9.out.block b hb) (fun x hx => .inr hx)
      have HR89 := Lib.hid (HR8.out.below HBL9.out).lt
      go_wp2_with fail
      refine (requal_v A8 A9 c8 c9 _ n8 n8 ((inp ++ t).drop p5) ((inp ++ t).drop p5) w9 HR89.out HR9.out (by rw [List.length_drop]; exact HN8.out.symm) (by rw [List.length_drop]; exact HN8.out.symm) (by simp only [maxLen]; omega) (by simp only [maxLen]; omega) true (by simp)).mono ?_
      rintro e wa ⟨rfl, hba⟩
      have HBa := Lib.hid (HB9.out.trans (hba.mono HB9.out.size))
      have HSa := Lib.hid (HS9.out.keep hba.size (fun b hb _ => hba.block b hb))
      have HTa : Hid (RefAt wa Y5 gr A c nr ah (inp ++ t) p5) := HT9.out.keep hba.size (fun b hb _ => hba.block b hb) (fun x hx => .inr hx)
      clear hba
      go_wp2_with fail
      go_roundw
      case rel => exact ⟨k + 1, p5, Y5, inp ++ t, out ++ ro, by omega, by go_num, by rw [HI5.out]; omega, HG5, HSa, HTa, HBa⟩
      case measure => simp [intOf]; omega
    · have hbs := HB.out.size
      go_wp2_with fail
      refine (close_g Y _ w.heap.size gs rules bf ah inp p wr HS.out HOK.out (by omega) (HG.out.le HOK.out).1).mono ?_
      rintro e w5 ⟨A5, n5, c5, ro, rfl, hn5, HC5, HL5, HO5, HR5, HK5, HBS5, HF5⟩
      have HB5 : Hid (Below w.heap.size w w5) := HB.out.trans HBS5.out
      have HYg := Lib.hid HS.out.gY
      have HT5 : Hid (RefAt w5 Y gr A c nr ah inp p) := HT.out.keep HF5.out.size (fun x hx hn => HF5.out.2 x hx (fun e => hn (e ▸ HYg.out))) (fun x hx => .inr hx)
      have HRC := Lib.hid (rclose_any Y w.heap.size gr A c nr bf ah rules inp p w5 HT5.out HOK.out (HR.out.below HB5.out) hgw HNR.out HLC'.out HLM.out (by omega) ro HO5.out)
      go_wp2_with fail
      refine HRC.out.mono ?_
      rintro e w6 ⟨A6, n6, c6, rfl, hn6, HL6, HR6, HF6⟩
      obtain rfl : n5 = n6 := HL5.out.symm.trans HL6.out
      have HB6 : Hid (Below w.heap.size w w6) := HB5.out.trans (HF6.out.1.mono hgw)
      have hgrr := HXL gr rfl
      have HGG : Hid (gs ≠ gr) := fun e => (HS.out.own gs HYg.out).2.2 e
      have HA6 : Hid (Row w6 w6.heap.size A5 (ints ro)) := Row.more (B := w5.heap.size) (HR5.out.era_keep (E' := fun _ => False) (fun x hx hE => HF6.out.2 x hx (fun e => hE (by omega))) (fun _ _ h => h.elim)).of_era HF6.out.size
      have HK6 : Hid (Blk w6 gs 53 (strC none 0 0 0 none 0 0 0 0 false)) := (HF6.out.2 gs HK5.out.lt HGG.out).trans HK5.out
      obtain ⟨w7, hw7, HB7, HBL7⟩ : ∃ v, v = w6.alloc (.cells #[.int .i64 97] 3) ∧ Hid (Below w.heap.size w v) ∧ Hid (Below w6.heap.size w6 v) := ⟨_, rfl, HB6.out.alloc HB6.out.size _, (Below.refl _ _).alloc (Nat.le_refl _) _⟩
      go_wp2_with fail
      rw [← hw7]
      clear hw7
      have HK7 := Lib.hid (HK6.out.after HBL7.out)
      refine (write_shut gs _ _ 1 1 w7 HK7.out rfl).mono ?_
      rintro e w8 ⟨rfl, hb8⟩
      have HB8 := Lib.hid (HB7.out.trans (hb8.mono HB7.out.size))
      have HK8 := Lib.hid (HK7.out.after hb8)
      have HBL8 := Lib.hid (HBL7.out.trans (hb8.mono HBL7.out.size))
      clear hb8
      go_wp2_with fail
      refine (close_shut gs _ w8 HK8.out rfl).mono ?_
      rintro e w9 ⟨rfl, hb9⟩
      have HB9 := Lib.hid (HB8.out.trans (hb9.mono HB8.out.size))
      have HK9 := Lib.hid (HK8.out.after hb9)
      have HBL9 := Lib.hid (HBL8.out.trans (hb9.mono HBL8.out.size))
      clear hb9
      have HA9 := Lib.hid (HA6.out.below HBL9.out).lt
      have HA9' := Lib.hid (HR6.out.below HBL9.out).lt
      go_wp2_with fail
      refine (requal_v A5 A6 c5 c6 _ n5 n5 ro ro w9 HA9.out HA9'.out HL5.out HL5.out (by simp only [maxLen]; omega) (by simp only [maxLen]; omega) true (by simp)).mono ?_
      rintro e wa ⟨rfl, hba⟩
      have HBa := Lib.hid (HB9.out.trans (hba.mono HB9.out.size))
      have HKa := Lib.hid (HK9.out.after hba)
      clear hba
      go_wp2_with fail
      refine (pend_shut gs _ wa HKa.out rfl).mono ?_
      rintro e wb ⟨rfl, hbb⟩
      have HBb := Lib.hid (HBa.out.trans (hbb.mono HBa.out.size))
      clear hbb
      go_wp2_with fail
      refine (awake_any _).mono ?_
      rintro e wc ⟨rfl, hbc⟩
      have HBc := Lib.hid (HBb.out.trans (hbc.mono HBb.out.size))
      clear hbc
      go_wp2
      go_ret
      exact ⟨rfl, HBc.out⟩
theorem own : ownKnob Try.prog.godebug = none := by kernel_rfl
theorem laidOut : laidOutB Try.prog = true := by kernel_rfl
set_option maxRecDepth 100000 in
theorem lifted (os : Os) (started : os.Started) (H : Type) (enc : TypeId × Value → H) :
    ReturnsInHanded {} Try.checked os 6 .any (Rows.transstreamWritesSpec.pre6 enc Try.prog Try.f6 Rows.transstreamWritesRow.domain false) (Rows.transstreamWritesSpec.post enc Try.prog Try.f6 false true false false) := by
  refine returnsInHanded_of_change (C := Try.checked) own started (by kernel_rfl) Try.func6
    (ChangeSpec.witness6 (enc := enc) (C := Try.checked) false ⟨#[], #[.slice none 0 0, .slice none 0 0], []⟩ 8 (by kernel_rfl) (by kernel_rfl) (by kernel_rfl) (by kernel_rfl)) ?_
  intro W base args ds gs before hval0 hW hcnd _
  have hval : ∀ (j : Nat) t v, Try.f6.params[j]? = some t → args[j]? = some v → Value.okWide Try.prog W .any base t v := hval0
  have hW' := hW
  obtain ⟨p, q, hA0, hV, rfl, hfz, hnd⟩ := hW
  have hA : DataW.TrodAll enc Try.prog W 0 (fun _ => true) true Try.f6.params.toList args.toList ds p := hA0
  rw [Try.params6] at hA hval
  obtain ⟨v0, v1, d0, d1, p0, p1, rfl, rfl, rfl, h0, h1⟩ := trodAll_two hA
  obtain ⟨rfl, rfl⟩ := trodVars_none hV
  obtain ⟨ad0, le0, ca0, rfl⟩ := okWide_slice Try.underlying22 (hval 0 22 v0 rfl rfl)
  obtain ⟨fu0, hf0⟩ := h0
  obtain ⟨A0, c0, xs0, hv0, hc0, hm0, hR0⟩ := open_rules (v := .slice ad0 le0 ca0) hf0
  injection hv0 with ea0 eb0 ec0
  subst ea0 eb0 ec0
  obtain ⟨ad1, le1, ca1, rfl⟩ := okWide_slice Try.underlying23 (hval 1 23 v1 rfl rfl)
  obtain ⟨fu1, hf1⟩ := h1
  obtain ⟨A1, c1, xs1, hv1, hc1, hm1, hR1⟩ := open_rows2 (v := .slice ad1 le1 ca1) Try.underlying23 (by kernel_rfl) Try.underlying31 Try.underlying3 (by kernel_rfl) hf1
  injection hv1 with ea1 eb1 ec1
  subst ea1 eb1 ec1
  refine (walk W ad0 ca0 xs0 hc0 hm0 hR0 ad1 ca1 xs1 hc1 hm1 hR1).mono fun e W' ⟨he, hb⟩ => ⟨_, he, ?_⟩
  exact law_post laidOut (by rw [Try.params6]; exact of_decide_eq_true (by kernel_rfl)) rfl rfl Try.underlying4 hW' rfl hb
theorem holds : Rows.TransstreamWritesSaid :=
  OpenClaim.holds_of_wide 6 Try.f6 rfl rfl rfl rfl rfl rfl rfl ⟨rfl, rfl, rfl, rfl, rfl⟩ rfl rfl rfl rfl rfl (by kernel_rfl) Try.func6 (by kernel_rfl)
    (of_decide_eq_true (by kernel_rfl)) (by unfold Func.isWrapper; first | (rw [if_pos (by decide +kernel)]; kernel_rfl) | (rw [if_neg (by decide +kernel)]; exact ⟨rfl, rfl⟩))
    (fun os started H enc _ => lifted os started H enc)
end Go.Proofs.Ytjohoohdjlajcaa.LWrites
namespace Go.Proofs.Ytjohoohdjlajcaa
theorem transstreamWrites_holds : Rows.TransstreamWritesSaid := LWrites.holds
end Go.Proofs.Ytjohoohdjlajcaa
