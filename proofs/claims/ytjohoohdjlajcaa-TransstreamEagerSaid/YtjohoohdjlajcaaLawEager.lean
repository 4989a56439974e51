/-
  TransstreamEager: for every input the law returns true, and its arguments read as before. No condition.
-/
import Derived.Test.YtjohoohdjlajcaaRows
import Derived.Test.YtjohoohdjlajcaaLift
import Derived.Test.YtjohoohdjlajcaaTlo
import Derived.Test.YtjohoohdjlajcaaSa0
import Derived.Test.YtjohoohdjlajcaaTu3
import Derived.Test.YtjohoohdjlajcaaTu5
import Derived.Deep.CutBlock
import Derived.Test.YtjohoohdjlajcaaSb0
namespace Go.Proofs.Ytjohoohdjlajcaa.LEager
open Go.ChangeShapes Go.WideShapes Go.ChangeAt Go.RowKit Go.UtYtjohoohdjlajcaa Go.Joins
set_option maxRecDepth 100000 in
set_option maxHeartbeats 4000000 in
theorem walk (w : World) (A : Option Addr) (c : Nat) (rules : List TR) (lc : rules.length ≤ c) (lm : c ≤ maxLen) (hR : RulesAt w w.heap.size A rules) (Am : Option Addr) (cm : Nat) (texts : List (List Int)) (_lcm : texts.length ≤ cm) (_lmm : cm ≤ maxLen) (hM : Rows2 w w.heap.size Am texts) :
    Calls Try.prog 9 #[.slice A rules.length c, .slice Am texts.length cm] w fun e w' => e = .returned (.bool true) ∧ Below w.heap.size w w' := by
  have HR := Lib.hid hR
  have HM := Lib.hid hM
  have HLC := Lib.hid lc
  have HLM := Lib.hid lm
  clear hR hM lc lm _lcm _lmm
  obtain ⟨i0, hi0, hz0, hz1, hz2⟩ := info_parts in_info
  by_cases hf : ¬ smB rules
  · go_enter Try.func9, Try.ntmps9
    go_wp2_with fail
    refine (smallB_any A c rules w HR.out false ⟨fun h => (by cases h), fun h => absurd h hf⟩).mono ?_
    rintro e w1 ⟨rfl, hb1⟩
    have HB1 := Lib.hid hb1
    have HR1 := Lib.hid (HR.out.below hb1).lt
    clear hb1
    go_wp2_with fail
    refine (awake_any _).mono ?_
    rintro e w2 ⟨rfl, hb2⟩
    have HB2 := Lib.hid (HB1.out.trans (hb2.mono HB1.out.size))
    clear hb2
    go_wp2
    go_ret
    exact ⟨rfl, HB2.out⟩
  replace hf := Classical.not_not.1 hf
  by_cases hg : ¬ (texts.length ≤ 8 ∧ ∀ t ∈ texts, t.length ≤ 30)
  · go_enter Try.func9, Try.ntmps9
    go_wp2_with fail
    refine (smallB_any A c rules w HR.out true ⟨fun _ => hf, fun _ => rfl⟩).mono ?_
    rintro e w1 ⟨rfl, hb1⟩
    have HB1 := Lib.hid hb1
    have HR1 := Lib.hid (HR.out.below hb1).lt
    clear hb1
    have HM1 := Lib.hid (HM.out.below HB1.out).lt
    go_wp2_with fail
    refine (few52_any Am cm texts w1 HM1.out false ⟨fun h => (by cases h), fun h => absurd h hg⟩).mono ?_
    rintro e w1' ⟨rfl, hw1⟩
    subst w1'
    go_wp2_with fail
    refine (awake_any _).mono ?_
    rintro e w2 ⟨rfl, hb2⟩
    have HB2 := Lib.hid (HB1.out.trans (hb2.mono HB1.out.size))
    clear hb2
    go_wp2
    go_ret
    exact ⟨rfl, HB2.out⟩
  replace hg := Classical.not_not.1 hg
  have h8 := hg.1
  have HT30 := Lib.hid hg.2
  have HF := Lib.hid hf
  go_enter Try.func9, Try.ntmps9
  go_wp2_with fail
  refine (smallB_any A c rules w HR.out true ⟨fun _ => hf, fun _ => rfl⟩).mono ?_
  rintro e w1 ⟨rfl, hb1⟩
  have HB1 := Lib.hid hb1
  have HR1 := Lib.hid (HR.out.below hb1).lt
  clear hb1
  have HM1 := Lib.hid (HM.out.below HB1.out).lt
  go_wp2_with fail
  refine (few52_any Am cm texts w1 HM1.out true ⟨fun _ => hg, fun _ => rfl⟩).mono ?_
  rintro e w1' ⟨rfl, hw1⟩
  subst w1'
  have HM0 := HM
  clear hg hf HR
  go_wp2_with fail
  refine (new_g A c rules.length w.heap.size rules w1 HR1.out HF.out rfl HLC.out HLM.out HB1.out.size).mono ?_
  rintro e w2 (⟨x, hx0, HX, rfl, HBx⟩ | ⟨gs, bf, ah, rfl, HGS, H0, HOK, HBA, HS0, HBx⟩)
  · have HB2 := Lib.hid (HB1.out.trans (HBx.out.mono HB1.out.size))
    have HR2 := Lib.hid (HR1.out.below HBx.out).lt
    obtain ⟨b2, hb2⟩ : ∃ n, bfR (dataL rules) = n := ⟨_, rfl⟩
    obtain ⟨a2, ha2⟩ : ∃ n, ahR (dataL rules) = n := ⟨_, rfl⟩
    have HBA2 := Lib.hid (And.intro hb2 ha2)
    clear hb2 ha2
    go_wp2_with fail
    refine (rReach_any A c rules w2 HR2.out HF.out.smR HLC.out HLM.out b2 a2 HBA2.out.1 HBA2.out.2).mono ?_
    rintro e w3 ⟨rfl, hb3⟩
    have HB3 := Lib.hid (HB2.out.trans (hb3.mono HB2.out.size))
    have HBL3 := Lib.hid hb3
    clear hb3
    go_wp2_with fail
    refine (awake_any _).mono ?_
    rintro e w4 ⟨rfl, hb4⟩
    have HB4 := Lib.hid (HB3.out.trans (hb4.mono HB3.out.size))
    clear hb4
    go_wp2
    go_ret
    exact ⟨rfl, HB4.out⟩
  have HB2 := Lib.hid (HB1.out.trans (HBx.out.mono HB1.out.size))
  have HR2 := Lib.hid (HR1.out.below HBx.out).lt
  obtain ⟨b2, hb2⟩ : ∃ n, bfR (dataL rules) = n := ⟨_, rfl⟩
  obtain ⟨a2, ha2⟩ : ∃ n, ahR (dataL rules) = n := ⟨_, rfl⟩
  have HBA2 := Lib.hid (And.intro hb2 ha2)
  clear hb2 ha2
  go_wp2_with fail
  refine (rReach_any A c rules w2 HR2.out HF.out.smR HLC.out HLM.out b2 a2 HBA2.out.1 HBA2.out.2).mono ?_
  rintro e w3 ⟨rfl, hb3⟩
  have HB3 := Lib.hid (HB2.out.trans (hb3.mono HB2.out.size))
  have HBL3 := Lib.hid hb3
  clear hb3
  have HSE := Lib.hid (HS0.out (fun _ => False) (fun _ h => h.elim))
  have HS3 := Lib.hid (HSE.out.keep HBL3.out.size (fun b hb _ => HBL3.out.block b hb))
  by_cases h1 : 1 < a2
  · go_wp2_with fail
    refine (awake_any _).mono ?_
    rintro e w4 ⟨rfl, hb4⟩
    have HB4 := Lib.hid (HB3.out.trans (hb4.mono HB3.out.size))
    clear hb4
    go_wp2
    go_ret
    exact ⟨rfl, HB4.out⟩
  have HA1 : Hid (ah = 1) := by
    have hq := HBA.out.2
    have hq2 := HBA2.out.2
    rw [data_same H0.out] at hq2
    show ah = 1
    omega
  have hd1 : decide (1 < a2) = false := decide_eq_false h1
  go_wp2_with fail
  go_loopw [9] (fun i wr => ∃ (k p : Nat) (Y : Nat → Prop) (inp out : List Int), k ≤ texts.length ∧ i = .int .i64 (k : Int) ∧ inp.length ≤ 30 * k ∧ Hid (Got rules ah inp out p) ∧ Hid (StrAt wr Y (fun _ => False) w.heap.size gs rules bf ah inp p) ∧ Hid (Below w.heap.size w wr)) (fun i _ => texts.length - (intOf i).toNat)
  case atStart => exact ⟨0, 0, _, [], [], by omega, rfl, by simp, Got.nil HOK.out, HS3, HB3⟩
  case round =>
    obtain ⟨k, p, Y, inp, out, hk, rfl, hil, HG, HS, HB⟩ := hrel
    have HXL : ∀ x, (fun _ : Nat => False) x → x < wr.heap.size := fun _ h => h.elim
    by_cases hkn : k < texts.length
    · obtain ⟨b, o, A', c', t, rfl, hb, hx, cc, l1, l2, ht⟩ := (HM0.out.below HB.out).at_ (k := k) hkn
      have htl := HT30.out t (List.mem_of_getElem? hx.out)
      obtain ⟨m, hm⟩ : ∃ m, t.length = m := ⟨_, rfl⟩
      rw [hm] at cc htl l1
      have HTL := Lib.hid hm
      have HTB := Lib.hid ht
      have HTW := Lib.hid (ht.more HB.out.size)
      have hbs := HB.out.size
      clear hm ht
      go_wp2_with fail
      refine (write_g Y (fun _ => False) w.heap.size gs rules bf ah inp t out p m A' c' wr HS.out HXL HOK.out HTW.out HTL.out (by omega) HG.out).mono ?_
      rintro e w5 ⟨A5, n5, c5, Y5, ro, p5, rfl, hn5, HC5, HL5, HG5, HR5, HS5, HST⟩
      have HB5 := Lib.hid (HB.out.trans (HST.out.1.mono (Nat.le_refl _)))
      have hbs5 := HB5.out.size
      have HI5 : Hid ((inp ++ t).length = inp.length + m) := by
        show _ = _
        rw [List.length_append, HTL.out]
      go_wp2_with fail
      refine (pend_g Y5 (fun _ => False) w.heap.size gs rules bf ah (inp ++ t) p5 w5 HS5.out (by rw [HI5.out]; omega)).mono ?_
      rintro e w6 ⟨A6, n6, c6, rfl, HN6, hn6, HR6, HBL6⟩
      obtain rfl : n6 = 0 := by
        have h1 := HG5.out.le HOK.out
        have h2 := HA1.out
        have h3 := HN6.out
        omega
      have HB6 := Lib.hid (HB5.out.trans (HBL6.out.mono hbs5))
      have HS6 := Lib.hid (HS5.out.keep HBL6.out.size (fun b hb _ => HBL6.out.block b hb))
      go_wp2_with fail
      go_roundw
      case rel => exact ⟨k + 1, p5, Y5, inp ++ t, out ++ ro, by omega, by go_num, by rw [HI5.out]; omega, HG5, HS6, HB6⟩
      case measure => simp [intOf]; omega
    · go_wp2_with fail
      refine (close_g Y (fun _ => False) w.heap.size gs rules bf ah inp p wr HS.out HOK.out (by omega) (HG.out.le HOK.out).1).mono ?_
      rintro e w5 ⟨A5, n5, c5, ro, rfl, hn5, HC5, HL5, HO5, HR5, HK5, HB5, HF5⟩
      obtain rfl : n5 = 0 := by
        have h1 := HG.out.le HOK.out
        have h2 := HA1.out
        have h3 := HO5.out
        rw [outR_end (by omega)] at h3
        have h4 := HL5.out
        rw [← h3] at h4
        simpa using h4.symm
      have HB6 := Lib.hid (HB.out.trans HB5.out)
      go_wp2_with fail
      refine (awake_any _).mono ?_
      rintro e w7 ⟨rfl, hb7⟩
      have HB7 := Lib.hid (HB6.out.trans (hb7.mono HB6.out.size))
      clear hb7
      go_wp2
      go_ret
      exact ⟨rfl, HB7.out⟩
theorem own : ownKnob Try.prog.godebug = none := by kernel_rfl
theorem laidOut : laidOutB Try.prog = true := by kernel_rfl
set_option maxRecDepth 100000 in
theorem lifted (os : Os) (started : os.Started) (H : Type) (enc : TypeId × Value → H) :
    ReturnsInHanded {} Try.checked os 9 .any (Rows.transstreamEagerSpec.pre6 enc Try.prog Try.f9 Rows.transstreamEagerRow.domain false) (Rows.transstreamEagerSpec.post enc Try.prog Try.f9 false true false false) := by
  refine returnsInHanded_of_change (C := Try.checked) own started (by kernel_rfl) Try.func9
    (ChangeSpec.witness6 (enc := enc) (C := Try.checked) false ⟨#[], #[.slice none 0 0, .slice none 0 0], []⟩ 8 (by kernel_rfl) (by kernel_rfl) (by kernel_rfl) (by kernel_rfl)) ?_
  intro W base args ds gs before hval0 hW hcnd _
  have hval : ∀ (j : Nat) t v, Try.f9.params[j]? = some t → args[j]? = some v → Value.okWide Try.prog W .any base t v := hval0
  have hW' := hW
  obtain ⟨p, q, hA0, hV, rfl, hfz, hnd⟩ := hW
  have hA : DataW.TrodAll enc Try.prog W 0 (fun _ => true) true Try.f9.params.toList args.toList ds p := hA0
  rw [Try.params9] at hA hval
  obtain ⟨v0, v1, d0, d1, p0, p1, rfl, rfl, rfl, h0, h1⟩ := trodAll_two hA
  obtain ⟨rfl, rfl⟩ := trodVars_none hV
  obtain ⟨ad0, le0, ca0, rfl⟩ := okWide_slice Try.underlying22 (hval 0 22 v0 rfl rfl)
  obtain ⟨fu0, hf0⟩ := h0
  obtain ⟨A0, c0, xs0, hv0, hc0, hm0, hR0⟩ := open_rules (v := .slice ad0 le0 ca0) hf0
  injection hv0 with ea0 eb0 ec0
  subst ea0 eb0 ec0
  obtain ⟨ad1, le1, ca1, rfl⟩ := okWide_slice Try.underlying23 (hval 1 23 v1 rfl rfl)
  obtain ⟨fu1, hf1⟩ := h1
  obtain ⟨A1, c1, xs1, hv1, hc1, hm1, hR1⟩ := open_rows2 (v := .slice ad1 le1 ca1) Try.underlying23 (by kernel_rfl) Try.underlying31 Try.underlying3 (by kernel_rfl) hf1
  injection hv1 with ea1 eb1 ec1
  subst ea1 eb1 ec1
  refine (walk W ad0 ca0 xs0 hc0 hm0 hR0 ad1 ca1 xs1 hc1 hm1 hR1).mono fun e W' ⟨he, hb⟩ => ⟨_, he, ?_⟩
  exact law_post laidOut (by rw [Try.params9]; exact of_decide_eq_true (by kernel_rfl)) rfl rfl Try.underlying4 hW' rfl hb
theorem holds : Rows.TransstreamEagerSaid :=
  OpenClaim.holds_of_wide 9 Try.f9 rfl rfl rfl rfl rfl rfl rfl ⟨rfl, rfl, rfl, rfl, rfl⟩ rfl rfl rfl rfl rfl (by kernel_rfl) Try.func9 (by kernel_rfl)
    (of_decide_eq_true (by kernel_rfl)) (by unfold Func.isWrapper; first | (rw [if_pos (by decide +kernel)]; kernel_rfl) | (rw [if_neg (by decide +kernel)]; exact ⟨rfl, rfl⟩))
    (fun os started H enc _ => lifted os started H enc)
end Go.Proofs.Ytjohoohdjlajcaa.LEager
namespace Go.Proofs.Ytjohoohdjlajcaa
theorem transstreamEager_holds : Rows.TransstreamEagerSaid := LEager.holds
end Go.Proofs.Ytjohoohdjlajcaa
