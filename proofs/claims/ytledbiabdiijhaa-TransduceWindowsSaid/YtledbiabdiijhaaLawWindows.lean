/-
  TransduceWindows: for every input the law returns true, and its arguments read as before. No condition.
-/
import Derived.Test.YtledbiabdiijhaaRows
import Derived.Test.YtledbiabdiijhaaLift
import Derived.Test.YtledbiabdiijhaaTlo
import Derived.Test.YtledbiabdiijhaaTu4
import Derived.Test.YtledbiabdiijhaaTu5
import Derived.Test.YtledbiabdiijhaaTu6
import Derived.Deep.CutBlock
namespace Go.Proofs.Ytledbiabdiijhaa.LWindows
open Go.ChangeShapes Go.WideShapes Go.ChangeAt Go.RowKit Go.UtYtledbiabdiijhaa Go.Joins
theorem min2_int {P : Program} (w : World) (ts : Array TypeId) (t : TypeId) (k k' : IntKind) (x y : Int) : (Builtin.min_ ts t #[.int k x, .int k' y]).run P w = .ok (.int k (min x y)) w := by
  rw [run_min_int2]
  congr 2
  split <;> omega
attribute [local go_sem high] cut_lh cutA_zero max2_int min2_int
set_option maxRecDepth 100000 in
set_option maxHeartbeats 4000000 in
theorem walk (w : World) (A : Option Addr) (c : Nat) (rules : List TR) (lc : rules.length ≤ c) (lm : c ≤ maxLen) (hR : RulesAt w w.heap.size A rules) (At : Option Addr) (ct : Nat) (text : List Int) (lct : text.length ≤ ct) (lmt : ct ≤ maxLen) (hT : Row w w.heap.size At (ints text)) (x : Int) (hx : -9223372036854775808 ≤ x ∧ x ≤ 9223372036854775807) :
    Calls Try.prog 8 #[.slice A rules.length c, .slice At text.length ct, .int .i64 x] w fun e w' => e = .returned (.bool true) ∧ Below w.heap.size w w' := by
  have HR := Lib.hid hR
  have HT := Lib.hid hT
  have HLC := Lib.hid lc
  have HLM := Lib.hid lm
  have lmt2 := Nat.le_trans lct lmt
  obtain ⟨nt, hnt⟩ : ∃ n, text.length = n := ⟨_, rfl⟩
  by_cases hf : smL rules ∧ text.length ≤ 40
  · by_cases hxr : 0 ≤ x ∧ x < (nt : Int)
    · obtain ⟨hx0, hx1⟩ := hxr
      obtain ⟨p, rfl⟩ : ∃ p : Nat, x = (p : Int) := ⟨x.toNat, by omega⟩
      have hsm := hf.1.smR
      have hrl := hf.1.1
      have htl := hf.2
      obtain ⟨hd1, hd2⟩ := data_reach rules
      obtain ⟨bf, hbf⟩ : ∃ n, bfR (dataL rules) = n := ⟨_, rfl⟩
      obtain ⟨ah, hah⟩ : ∃ n, ahR (dataL rules) = n := ⟨_, rfl⟩
      rw [hbf] at hd1
      rw [hah] at hd2
      have HBF := Lib.hid hbf
      have HAH := Lib.hid hah
      have HLT := Lib.hid lct
      obtain ⟨lo, hlo⟩ : ∃ n, n = p - bf := ⟨_, rfl⟩
      obtain ⟨m1, hm1⟩ : ∃ n, n = max 1 ah := ⟨_, rfl⟩
      obtain ⟨hi, hhi⟩ : ∃ n, n = min nt (p + m1) := ⟨_, rfl⟩
      have k1 : IntKind.i64.wrap ((p : Int) - (bf : Int)) = (p : Int) - (bf : Int) := IntWalk.i64_in _ (by omega)
      have k2 : max 0 ((p : Int) - (bf : Int)) = (lo : Int) := by omega
      have k3 : max 1 (ah : Int) = (m1 : Int) := by omega
      have k4 : IntKind.i64.wrap ((p : Int) + (m1 : Int)) = (p : Int) + (m1 : Int) := IntWalk.i64_in _ (by omega)
      have k5 : min (nt : Int) ((p : Int) + (m1 : Int)) = (hi : Int) := by omega
      have k6 : IntKind.i64.wrap ((p : Int) - (lo : Int)) = (p : Int) - (lo : Int) := IntWalk.i64_in _ (by omega)
      have k7 : (lo : Int) ≤ (hi : Int) := by omega
      have k8 : (hi : Int) ≤ (ct : Int) := by omega
      have HHI : Hid (hi = min text.length (p + max 1 ah)) := by
        show _ = _
        rw [hnt, hhi, hm1]
      have HLO := Lib.hid hlo
      have hpl : lo ≤ p ∧ p < hi ∧ hi ≤ nt := by omega
      obtain ⟨hp1, hp2, hp3⟩ := hpl
      have HWL : Hid (((text.drop lo).take (hi - lo)).length = hi - lo) := win_len (by rw [hnt]; exact hp3)
      have HNT := Lib.hid hnt
      clear hR hT lc lm lct lmt hbf hah hlo hm1 hhi hnt
      go_enter Try.func8, Try.ntmps8
      go_wp2_with fail
      refine (few_any A At c ct rules text w HR.out HLC.out HLM.out true ⟨fun _ => hf, fun _ => rfl⟩).mono ?_
      rintro e w1 ⟨rfl, hb1⟩
      have HB1 := Lib.hid hb1
      have HR1 := Lib.hid (HR.out.below hb1).lt
      have HT1 := Lib.hid (HT.out.below hb1).lt
      clear hb1
      rw [HNT.out]
      clear HR HT
      go_wp2_with fail
      refine (pReach_any A c rules w1 HR1.out hsm HLC.out HLM.out (by omega) bf ah HBF.out HAH.out).mono ?_
      rintro e w2 ⟨rfl, hb2⟩
      have HB2 := Lib.hid (HB1.out.trans (hb2.mono HB1.out.size))
      have HR2 := Lib.hid (HR1.out.below hb2).lt
      have HT2 := Lib.hid (HT1.out.below hb2).lt
      clear hb2 HR1 HT1
      have HS1 := pStep_any A At c ct rules text (p : Int) w2 HR2.out hsm HLC.out HLM.out (by omega) HT2.out (by omega)
      rw [HNT.out] at HS1
      replace HS1 := Lib.hid HS1
      go_wp2_with fail
      refine HS1.out.mono ?_
      rintro e w3 ⟨i, m, rfl, hst, hb3⟩
      have HSW : Hid (StepIs (dataL rules) ((text.drop lo).take (hi - lo)) ((p : Int) - (lo : Int)) i m) := by
        rcases hst with ⟨_, _, h⟩ | ⟨h, _⟩
        · refine .inl ⟨by omega, by rw [HWL.out]; omega, ?_⟩
          rw [show ((p : Int) - (lo : Int)).toNat = p - lo by omega]
          exact step_win (by rw [HNT.out]; omega) (Nat.le_of_eq HBF.out) (Nat.le_of_eq HAH.out) HLO.out HHI.out h
        · exact absurd ⟨by omega, by rw [HNT.out]; omega⟩ h
      have HB3 := Lib.hid (HB2.out.trans (hb3.mono HB2.out.size))
      have HR3 := Lib.hid (HR2.out.below hb3).lt
      have HT3 := Lib.hid (HT2.out.below hb3).lt
      clear hb3 hst HR2 HT2 HS1
      have HTW : Hid (Row w3 w3.heap.size (cutA At ct lo 1) (ints ((text.drop lo).take (hi - lo)))) := by
        have := HT3.out.cut (l := lo) (m := ct) (s := 1) (j := hi - lo) (.inl (by rw [ints_len]; have := HLT.out; omega))
        rw [Nat.mul_one] at this
        rw [ints_take, ints_drop]
        exact this
      have HS2 := pStep_any A (cutA At ct lo 1) c (ct - lo) rules ((text.drop lo).take (hi - lo)) ((p : Int) - (lo : Int)) w3 HR3.out hsm HLC.out HLM.out (by omega) HTW.out (by rw [HWL.out]; omega)
      rw [HWL.out] at HS2
      replace HS2 := Lib.hid HS2
      go_wp2_with fail
      refine HS2.out.mono ?_
      rintro e w4 ⟨i', m', rfl, hst, hb4⟩
      obtain ⟨rfl, rfl⟩ := stepIs_unique HSW.out hst
      have HB4 := Lib.hid (HB3.out.trans (hb4.mono HB3.out.size))
      clear hb4 hst
      go_wp2_with fail
      refine (alive_any _).mono ?_
      rintro e w5 ⟨rfl, hb5⟩
      have HB5 := Lib.hid (HB4.out.trans (hb5.mono HB4.out.size))
      clear hb5
      go_wp2
      go_ret
      exact ⟨rfl, HB5.out⟩
    · have HNT := Lib.hid hnt
      clear hR hT lc lm lct lmt hnt
      by_cases h0 : x < 0
      · clear hxr
        go_enter Try.func8, Try.ntmps8
        go_wp2_with fail
        refine (few_any A At c ct rules text w HR.out HLC.out HLM.out true ⟨fun _ => hf, fun _ => rfl⟩).mono ?_
        rintro e w1 ⟨rfl, hb1⟩
        have HB1 := Lib.hid hb1
        have HR1 := Lib.hid (HR.out.below hb1).lt
        have HT1 := Lib.hid (HT.out.below hb1).lt
        clear hb1
        rw [HNT.out]
        go_wp2_with fail
        refine (alive_any _).mono ?_
        rintro e w2 ⟨rfl, hb2⟩
        have HB2 := Lib.hid (HB1.out.trans (hb2.mono HB1.out.size))
        clear hb2
        go_wp2
        go_ret
        exact ⟨rfl, HB2.out⟩
      · have h1 : ¬ x < (nt : Int) := by omega
        clear hxr
        go_enter Try.func8, Try.ntmps8
        go_wp2_with fail
        refine (few_any A At c ct rules text w HR.out HLC.out HLM.out true ⟨fun _ => hf, fun _ => rfl⟩).mono ?_
        rintro e w1 ⟨rfl, hb1⟩
        have HB1 := Lib.hid hb1
        have HR1 := Lib.hid (HR.out.below hb1).lt
        have HT1 := Lib.hid (HT.out.below hb1).lt
        clear hb1
        rw [HNT.out]
        go_wp2_with fail
        refine (alive_any _).mono ?_
        rintro e w2 ⟨rfl, hb2⟩
        have HB2 := Lib.hid (HB1.out.trans (hb2.mono HB1.out.size))
        clear hb2
        go_wp2
        go_ret
        exact ⟨rfl, HB2.out⟩
  · clear hR hT lc lm lct lmt hnt
    go_enter Try.func8, Try.ntmps8
    go_wp2_with fail
    refine (few_any A At c ct rules text w HR.out HLC.out HLM.out false ⟨fun h => (by cases h), fun h => absurd h hf⟩).mono ?_
    rintro e w1 ⟨rfl, hb1⟩
    have HB1 := Lib.hid hb1
    have HR1 := Lib.hid (HR.out.below hb1).lt
    have HT1 := Lib.hid (HT.out.below hb1).lt
    clear hb1
    go_wp2_with fail
    refine (alive_any _).mono ?_
    rintro e w2 ⟨rfl, hb2⟩
    have HB2 := Lib.hid (HB1.out.trans (hb2.mono HB1.out.size))
    clear hb2
    go_wp2
    go_ret
    exact ⟨rfl, HB2.out⟩
theorem own : ownKnob Try.prog.godebug = none := by kernel_rfl
theorem laidOut : laidOutB Try.prog = true := by kernel_rfl
set_option maxRecDepth 100000 in
theorem lifted (os : Os) (started : os.Started) (H : Type) (enc : TypeId × Value → H) :
    ReturnsInHanded {} Try.checked os 8 .any (Rows.transduceWindowsSpec.pre6 enc Try.prog Try.f8 Rows.transduceWindowsRow.domain false) (Rows.transduceWindowsSpec.post enc Try.prog Try.f8 false true false false) := by
  refine returnsInHanded_of_change (C := Try.checked) own started (by kernel_rfl) Try.func8
    (ChangeSpec.witness6 (enc := enc) (C := Try.checked) false ⟨#[], #[.slice none 0 0, .slice none 0 0, .int .i64 0], []⟩ 8 (by kernel_rfl) (by kernel_rfl) (by kernel_rfl) (by kernel_rfl)) ?_
  intro W base args ds gs before hval0 hW hcnd _
  have hval : ∀ (j : Nat) t v, Try.f8.params[j]? = some t → args[j]? = some v → Value.okWide Try.prog W .any base t v := hval0
  have hW' := hW
  obtain ⟨p, q, hA0, hV, rfl, hfz, hnd⟩ := hW
  have hA : DataW.TrodAll enc Try.prog W 0 (fun _ => true) true Try.f8.params.toList args.toList ds p := hA0
  rw [Try.params8] at hA hval
  obtain ⟨v0, v1, v2, d0, d1, d2, p0, p1, p2, rfl, rfl, rfl, h0, h1, h2⟩ := trodAll_three hA
  obtain ⟨rfl, rfl⟩ := trodVars_none hV
  obtain ⟨ad0, le0, ca0, rfl⟩ := okWide_slice Try.underlying22 (hval 0 22 v0 rfl rfl)
  obtain ⟨fu0, hf0⟩ := h0
  obtain ⟨A0, c0, xs0, hv0, hc0, hm0, hR0⟩ := open_rules (v := .slice ad0 le0 ca0) hf0
  injection hv0 with ea0 eb0 ec0
  subst ea0 eb0 ec0
  obtain ⟨ad1, le1, ca1, rfl⟩ := okWide_slice Try.underlying23 (hval 1 23 v1 rfl rfl)
  obtain ⟨fu1, hf1⟩ := h1
  obtain ⟨A1, c1, xs1, hv1, hc1, hm1, hR1, -⟩ := open_row (v := .slice ad1 le1 ca1) Try.underlying23 Try.underlying3 (by kernel_rfl) hf1
  injection hv1 with ea1 eb1 ec1
  subst ea1 eb1 ec1
  obtain ⟨s2, rfl, rfl, rfl, ws2⟩ := open_int Try.underlying3 (hval 2 3 v2 rfl rfl) h2
  refine (walk W ad0 ca0 xs0 hc0 hm0 hR0 ad1 ca1 xs1 hc1 hm1 hR1 s2 (wf_i64 ws2)).mono fun e W' ⟨he, hb⟩ => ⟨_, he, ?_⟩
  exact law_post laidOut (by rw [Try.params8]; exact of_decide_eq_true (by kernel_rfl)) rfl rfl Try.underlying4 hW' rfl hb
theorem holds : Rows.TransduceWindowsSaid :=
  OpenClaim.holds_of_wide 8 Try.f8 rfl rfl rfl rfl rfl rfl rfl ⟨rfl, rfl, rfl, rfl, rfl⟩ rfl rfl rfl rfl rfl (by kernel_rfl) Try.func8 (by kernel_rfl)
    (of_decide_eq_true (by kernel_rfl)) (by unfold Func.isWrapper; first | (rw [if_pos (by decide +kernel)]; kernel_rfl) | (rw [if_neg (by decide +kernel)]; exact ⟨rfl, rfl⟩))
    (fun os started H enc _ => lifted os started H enc)
end Go.Proofs.Ytledbiabdiijhaa.LWindows
namespace Go.Proofs.Ytledbiabdiijhaa
theorem transduceWindows_holds : Rows.TransduceWindowsSaid := LWindows.holds
end Go.Proofs.Ytledbiabdiijhaa
