/-
  TransstreamWhole: for every input the law returns true, and its arguments read as before. No condition.
-/
import Derived.Test.YtjohoohdjlajcaaRows
import Derived.Test.YtjohoohdjlajcaaLift
import Derived.Test.YtjohoohdjlajcaaTlo
import Derived.Test.YtjohoohdjlajcaaSa0
import Derived.Test.YtjohoohdjlajcaaTu3
import Derived.Test.YtjohoohdjlajcaaTu5
import Derived.Deep.CutBlock
import Derived.Test.YtjohoohdjlajcaaSb0
namespace Go.Proofs.Ytjohoohdjlajcaa.LWhole
open Go.ChangeShapes Go.WideShapes Go.ChangeAt Go.RowKit Go.UtYtjohoohdjlajcaa Go.Joins
set_option maxRecDepth 100000 in
set_option maxHeartbeats 4000000 in
theorem walk (w : World) (A : Option Addr) (c : Nat) (rules : List TR) (lc : rules.length ≤ c) (lm : c ≤ maxLen) (hR : RulesAt w w.heap.size A rules) (Am : Option Addr) (cm : Nat) (texts : List (List Int)) (_lcm : texts.length ≤ cm) (_lmm : cm ≤ maxLen) (hM : Rows2 w w.heap.size Am texts) :
    Calls Try.prog 3 #[.slice A rules.length c, .slice Am texts.length cm] w fun e w' => e = .returned (.bool true) ∧ Below w.heap.size w w' := by
  have HR := Lib.hid hR
  have HM := Lib.hid hM
  have HLC := Lib.hid lc
  have HLM := Lib.hid lm
  clear hR hM lc lm _lcm _lmm
  obtain ⟨i0, hi0, hz0, hz1, hz2⟩ := info_parts in_info
  by_cases hf : ¬ smB rules
  · go_enter Try.func3, Try.ntmps3
    go_wp2_with fail
    refine (smallB_any A c rules w HR.out false ⟨fun h => (by cases h), fun h => absurd h hf⟩).mono ?_
    rintro e w1 ⟨rfl, hb1⟩
    have HB1 := Lib.hid hb1
    have HR1 := Lib.hid (HR.out.below hb1).lt
    clear hb1
    go_wp2_with fail
    refine (awake_any _).mono ?_
    rintro e w2 ⟨rfl, hb2⟩
    have HB2 := Lib.hid (HB1.out.trans (hb2.mono HB1.out.size))
    clear hb2
    go_wp2
    go_ret
    exact ⟨rfl, HB2.out⟩
  replace hf := Classical.not_not.1 hf
  by_cases hg : ¬ (texts.length ≤ 8 ∧ ∀ t ∈ texts, t.length ≤ 30)
  · go_enter Try.func3, Try.ntmps3
    go_wp2_with fail
    refine (smallB_any A c rules w HR.out true ⟨fun _ => hf, fun _ => rfl⟩).mono ?_
    rintro e w1 ⟨rfl, hb1⟩
    have HB1 := Lib.hid hb1
    have HR1 := Lib.hid (HR.out.below hb1).lt
    clear hb1
    have HM1 := Lib.hid (HM.out.below HB1.out).lt
    go_wp2_with fail
    refine (few52_any Am cm texts w1 HM1.out false ⟨fun h => (by cases h), fun h => absurd h hg⟩).mono ?_
    rintro e w1' ⟨rfl, hw1⟩
    subst w1'
    go_wp2_with fail
    refine (awake_any _).mono ?_
    rintro e w2 ⟨rfl, hb2⟩
    have HB2 := Lib.hid (HB1.out.trans (hb2.mono HB1.out.size))
    clear hb2
    go_wp2
    go_ret
    exact ⟨rfl, HB2.out⟩
  replace hg := Classical.not_not.1 hg
  have h8 := hg.1
  have HT30 := Lib.hid hg.2
  have HF := Lib.hid hf
  go_enter Try.func3, Try.ntmps3
  go_wp2_with fail
  refine (smallB_any A c rules w HR.out true ⟨fun _ => hf, fun _ => rfl⟩).mono ?_
  rintro e w1 ⟨rfl, hb1⟩
  have HB1 := Lib.hid hb1
  have HR1 := Lib.hid (HR.out.below hb1).lt
  clear hb1
  have HM1 := Lib.hid (HM.out.below HB1.out).lt
  go_wp2_with fail
  refine (few52_any Am cm texts w1 HM1.out true ⟨fun _ => hg, fun _ => rfl⟩).mono ?_
  rintro e w1' ⟨rfl, hw1⟩
  subst w1'
  have HM0 := HM
  have HR0 := HR
  clear hg hf HR
  go_wp2_with fail
  refine (new_g A c rules.length w.heap.size rules w1 HR1.out HF.out rfl HLC.out HLM.out HB1.out.size).mono ?_
  rintro e w2 (⟨x, hx0, HX, rfl, HBx⟩ | ⟨gs, bf, ah, rfl, HGS, H0, HOK, HBA, HS0, HBx⟩)
  · have HB2 := Lib.hid (HB1.out.trans (HBx.out.mono HB1.out.size))
    go_wp2_with fail
    refine (awake_any _).mono ?_
    rintro e w3 ⟨rfl, hb3⟩
    have HB3 := Lib.hid (HB2.out.trans (hb3.mono HB2.out.size))
    clear hb3
    go_wp2
    go_ret
    exact ⟨rfl, HB3.out⟩
  have HB2 := Lib.hid (HB1.out.trans (HBx.out.mono HB1.out.size))
  have HR2 := Lib.hid (HR1.out.below HBx.out).lt
  have HSE := Lib.hid (HS0.out (fun _ => False) (fun _ h => h.elim))
  go_wp2_with fail
  go_loopw [7, 8, 9] (fun vi vo i wr => ∃ (k p ni ci no co : Nat) (Ai Ao : Option Addr) (Y : Nat → Prop) (inp out : List Int), k ≤ texts.length ∧ i = .int .i64 (k : Int) ∧ vi = .slice Ai ni ci ∧ vo = .slice Ao no co ∧ ni ≤ 30 * k ∧ no ≤ 16 * ni ∧ Hid (inp.length = ni ∧ out.length = no) ∧ Hid (Got rules ah inp out p) ∧ Hid (wr.ownsRow w.heap.size 3 1 (.slice Ai ni ci) ni (ints inp)) ∧ Hid (wr.ownsRow w.heap.size 3 1 (.slice Ao no co) no (ints out)) ∧ Hid (∀ x, (Value.slice Ai ni ci).ownBlock = some x → (Value.slice Ao no co).ownBlock ≠ some x) ∧ Hid (StrAt wr Y (fun x => (Value.slice Ai ni ci).ownBlock = some x ∨ ((Value.slice Ao no co).ownBlock = some x ∨ False)) w.heap.size gs rules bf ah inp p) ∧ Hid (Below w.heap.size w wr)) (fun _ _ i _ => texts.length - (intOf i).toNat)
  case atStart => exact ⟨0, 0, 0, 0, 0, 0, none, none, _, [], [], by omega, rfl, rfl, rfl, by omega, by omega, ⟨rfl, rfl⟩, Got.nil HOK.out, own_nil _, own_nil _, fun x hx => by simp [Value.ownBlock] at hx, HSE.out.newX (fun x hx => by simp [Value.ownBlock] at hx), HB2⟩
  case round =>
    obtain ⟨k, p, ni, ci, no, co, Ai, Ao, Y, inp, out, hk, rfl, rfl, rfl, hil, hol, HNI, HG, HO, HOO, HDJ, HS, HB⟩ := hrel
    have HXL : ∀ x, (fun x => (Value.slice Ai ni ci).ownBlock = some x ∨ ((Value.slice Ao no co).ownBlock = some x ∨ False)) x → x < wr.heap.size := fun x h => by
      rcases h with h | h | h
      · exact (own_lt HO.out x h).2.1
      · exact (own_lt HOO.out x h).2.1
      · exact h.elim
    by_cases hkn : k < texts.length
    · obtain ⟨b, o, A', c', t, rfl, hb, hx, cc, l1, l2, ht⟩ := (HM0.out.below HB.out).at_ (k := k) hkn
      have htl := HT30.out t (List.mem_of_getElem? hx.out)
      obtain ⟨m, hm⟩ : ∃ m, t.length = m := ⟨_, rfl⟩
      rw [hm] at cc htl l1
      have HTL := Lib.hid hm
      have HTB := Lib.hid ht
      have HTW := Lib.hid (ht.more HB.out.size)
      have hbs := HB.out.size
      clear hm ht
      go_wp2_with fail
      refine (write_g Y _ w.heap.size gs rules bf ah inp t out p m A' c' wr HS.out HXL HOK.out HTW.out HTL.out (by rw [HNI.out.1]; omega) HG.out).mono ?_
      rintro e w5 ⟨A5, n5, c5, Y5, ro, p5, rfl, hn5, HC5, HL5, HG5, HR5, HS5, HST⟩
      have HB5 := Lib.hid (HB.out.trans (HST.out.1.mono (Nat.le_refl _)))
      have hbs5 := HB5.out.size
      have HI5 : Hid ((inp ++ t).length = inp.length + m) := by
        show _ = _
        rw [List.length_append, HTL.out]
      have HO5 := Lib.hid (own_step HO.out HS.out (fun x hx => .inl hx) HST.out)
      have HOO5 := Lib.hid (own_step HOO.out HS.out (fun x hx => .inr (.inl hx)) HST.out)
      have cc5 := (HST.out.1.cell (p := ⟨b, o + k, none⟩) hb).trans cc
      have HT5 := Lib.hid (HTB.out.below HST.out.1)
      go_upto_region 14 with (first
        | (at_builtin
           refine wpList_append_row _ rfl (.tmp 56) (.tmp 60) _ rfl w.heap.size 3 i0 _ 1 8 Try.underlying31 hi0 hz0 hz1 hz2 rfl (by omega) (.slice Ai ni ci) ni (ints inp) rfl HO5.out _ _ m c' (ints t) rfl (by rw [ints_len, HTL.out, Nat.mul_one]) HT5.out (ints_one _) (by simp only [maxLen]; omega) (by omega) hbs5 ?_
           intro v w6 o1 g1 t1
           rw [← ints_append] at o1
           obtain ⟨A6, c6, rfl⟩ := ow_slice (m := ni + m) o1 rfl
           have O1 := Lib.hid o1
           have G1 := Lib.hid g1
           have T1 := Lib.hid t1
           clear o1 g1 t1))
      have HS6 := Lib.hid (HS5.out.app G1.out T1.out)
      have HB6 := Lib.hid (HB5.out.grown G1.out hbs5 (fun x hx => own_base HO5.out x hx))
      have hbs6 := HB6.out.size
      have HO6 := O1
      have HOO6 := Lib.hid (own_keepX HOO5.out (fun x hx hl => G1.out.block x hl (fun e => HDJ.out x e.symm hx)))
      have HR6 := Lib.hid (row_grown HR5.out G1.out (fun x hx => (own_lt HO.out x hx).2.1))
      have HDJ6 : Hid (∀ x, (Value.slice A6 (ni + m) c6).ownBlock = some x → (Value.slice Ao no co).ownBlock ≠ some x) := fun x hx hy => by
        rcases T1.out with h | h
        · exact HDJ.out x (h ▸ hx) hy
        · have h1 := (own_lt HOO5.out x hy).2.1
          rw [h] at hx
          injection hx with hx
          omega
      have HI6 : Hid ((inp ++ t).length = ni + m) := by
        show _ = _
        rw [HI5.out, HNI.out.1]
      clear O1 G1 T1
      go_wp2_with (first
        | (at_builtin
           refine wpList_append_row _ rfl (.tmp 62) (.tmp 63) _ rfl w.heap.size 3 i0 _ 1 8 Try.underlying31 hi0 hz0 hz1 hz2 rfl (by omega) (.slice Ao no co) no (ints out) rfl HOO6.out _ _ n5 c5 (ints ro) rfl (by rw [ints_len, HL5.out, Nat.mul_one]) HR6.out (ints_one _) (by simp only [maxLen]; omega) (by omega) hbs6 ?_
           intro v w7 o1 g1 t1
           rw [← ints_append] at o1
           obtain ⟨A7, c7, rfl⟩ := ow_slice (m := no + n5) o1 rfl
           have O1 := Lib.hid o1
           have G1 := Lib.hid g1
           have T1 := Lib.hid t1
           clear o1 g1 t1))
      have HSW : Hid (StrAt w6 Y5 (fun x => (Value.slice Ao no co).ownBlock = some x ∨ ((Value.slice A6 (ni + m) c6).ownBlock = some x ∨ False)) w.heap.size gs rules bf ah (inp ++ t) p5) := HS6.out.newX (fun x h => .inr (by
        rcases h with h | h | h
        · exact .inr (.inl h)
        · exact .inl h
        · exact h.elim))
      have HSV := Lib.hid (HSW.out.app G1.out T1.out)
      have HS7 : Hid (StrAt w7 Y5 (fun x => (Value.slice A6 (ni + m) c6).ownBlock = some x ∨ ((Value.slice A7 (no + n5) c7).ownBlock = some x ∨ False)) w.heap.size gs rules bf ah (inp ++ t) p5) := HSV.out.newX (fun x h => .inr (by
        rcases h with h | h | h
        · exact .inr (.inl h)
        · exact .inl h
        · exact h.elim))
      have HB7 := Lib.hid (HB6.out.grown G1.out hbs6 (fun x hx => own_base HOO6.out x hx))
      have HO7 := Lib.hid (own_keepX HO6.out (fun x hx hl => G1.out.block x hl (fun e => HDJ6.out x hx e.symm)))
      have HDJ7 : Hid (∀ x, (Value.slice A6 (ni + m) c6).ownBlock = some x → (Value.slice A7 (no + n5) c7).ownBlock ≠ some x) := fun x hx hy => by
        rcases T1.out with h | h
        · exact HDJ6.out x hx (h ▸ hy)
        · have h1 := (own_lt HO6.out x hx).2.1
          rw [h] at hy
          injection hy with hy
          omega
      have HI7 : Hid ((inp ++ t).length = ni + m ∧ (out ++ ro).length = no + n5) := ⟨HI6.out, by rw [List.length_append, HNI.out.2, HL5.out]⟩
      have hl7 := HG5.out.len HOK.out
      rw [HI7.out.1, HI7.out.2] at hl7
      go_roundw
      case rel => exact ⟨k + 1, p5, ni + m, c6, no + n5, c7, A6, A7, Y5, inp ++ t, out ++ ro, by omega, by go_num, rfl, rfl, by omega, by omega, HI7, HG5, HO7, O1, HDJ7, HS7, HB7⟩
      case measure => simp [intOf]; omega
    · go_wp2_with fail
      refine (close_g Y _ w.heap.size gs rules bf ah inp p wr HS.out HOK.out (by rw [HNI.out.1]; omega) (HG.out.le HOK.out).1).mono ?_
      rintro e w5 ⟨A5, n5, c5, ro, rfl, hn5, HC5, HL5, HP5, HR5, HK5, HB5, HF5⟩
      have HB5' := Lib.hid (HB.out.trans HB5.out)
      have hbs5 := HB5'.out.size
      have HO5 := Lib.hid (own_fr HO.out HS.out (fun x hx => .inl hx) HF5.out)
      have HOO5 := Lib.hid (own_fr HOO.out HS.out (fun x hx => .inr (.inl hx)) HF5.out)
      have HRR5 := Lib.hid HR5.out.of_era
      go_wp2_with (first
        | (at_builtin
           refine wpList_append_row _ rfl (.tmp 70) (.tmp 71) _ rfl w.heap.size 3 i0 _ 1 8 Try.underlying31 hi0 hz0 hz1 hz2 rfl (by omega) (.slice Ao no co) no (ints out) rfl HOO5.out _ _ n5 c5 (ints ro) rfl (by rw [ints_len, HL5.out, Nat.mul_one]) HRR5.out (ints_one _) (by simp only [maxLen]; omega) (by omega) hbs5 ?_
           intro v w6 o1 g1 t1
           rw [← ints_append] at o1
           obtain ⟨A6, c6, rfl⟩ := ow_slice (m := no + n5) o1 rfl
           have O1 := Lib.hid o1
           have G1 := Lib.hid g1
           have T1 := Lib.hid t1
           clear o1 g1 t1))
      have HB6 := Lib.hid (HB5'.out.grown G1.out hbs5 (fun x hx => own_base HOO5.out x hx))
      have HO6 := Lib.hid (own_keepX HO5.out (fun x hx hl => G1.out.block x hl (fun e => HDJ.out x hx e.symm)))
      have HALL : Hid (outR (dataL rules) inp 0 = out ++ ro) := by
        show _ = _
        rw [data_same H0.out, HG.out.all HOK.out, HP5.out]
      have HLL : Hid ((out ++ ro).length = no + n5) := by
        show _ = _
        rw [List.length_append, HNI.out.2, HL5.out]
      have HBR : Hid (Below w1.heap.size w1 w1) := Below.refl _ _
      have HRL := Lib.hid (HR0.out.below HB6.out).lt
      have HAP := rApply_any A Ai c ci rules inp w6 HRL.out HF.out.smR HLC.out HLM.out (ow_row HO6.out).1 (by rw [HNI.out.1]; omega) (out ++ ro) HALL.out
      unfold RetI at HAP
      rw [HNI.out.1, HLL.out] at HAP
      replace HAP := Lib.hid HAP
      go_wp2_with fail
      refine HAP.out.mono ?_
      rintro e w7 ⟨A7, c7, rfl, _, _, hr7, hb7⟩
      have HB7 := Lib.hid (HB6.out.trans (hb7.mono HB6.out.size))
      have HR7 := Lib.hid hr7
      have HOF := Lib.hid (ow_below O1.out hb7)
      clear hr7 hb7
      go_wp2_with fail
      refine (requal_v A6 A7 c6 c7 _ _ _ (out ++ ro) (out ++ ro) w7 (ow_row HOF.out).1 HR7.out HLL.out HLL.out (by simp only [maxLen]; omega) (by simp only [maxLen]; omega) true (by simp)).mono ?_
      rintro e w8 ⟨rfl, hb8⟩
      have HB8 := Lib.hid (HB7.out.trans (hb8.mono HB7.out.size))
      clear hb8
      go_wp2_with fail
      refine (awake_any _).mono ?_
      rintro e w9 ⟨rfl, hb9⟩
      have HB9 := Lib.hid (HB8.out.trans (hb9.mono HB8.out.size))
      clear hb9
      go_wp2
      go_ret
      exact ⟨rfl, HB9.out⟩
theorem own : ownKnob Try.prog.godebug = none := by kernel_rfl
theorem laidOut : laidOutB Try.prog = true := by kernel_rfl
set_option maxRecDepth 100000 in
theorem lifted (os : Os) (started : os.Started) (H : Type) (enc : TypeId × Value → H) :
    ReturnsInHanded {} Try.checked os 3 .any (Rows.transstreamWholeSpec.pre6 enc Try.prog Try.f3 Rows.transstreamWholeRow.domain false) (Rows.transstreamWholeSpec.post enc Try.prog Try.f3 false true false false) := by
  refine returnsInHanded_of_change (C := Try.checked) own started (by kernel_rfl) Try.func3
    (ChangeSpec.witness6 (enc := enc) (C := Try.checked) false ⟨#[], #[.slice none 0 0, .slice none 0 0], []⟩ 8 (by kernel_rfl) (by kernel_rfl) (by kernel_rfl) (by kernel_rfl)) ?_
  intro W base args ds gs before hval0 hW hcnd _
  have hval : ∀ (j : Nat) t v, Try.f3.params[j]? = some t → args[j]? = some v → Value.okWide Try.prog W .any base t v := hval0
  have hW' := hW
  obtain ⟨p, q, hA0, hV, rfl, hfz, hnd⟩ := hW
  have hA : DataW.TrodAll enc Try.prog W 0 (fun _ => true) true Try.f3.params.toList args.toList ds p := hA0
  rw [Try.params3] at hA hval
  obtain ⟨v0, v1, d0, d1, p0, p1, rfl, rfl, rfl, h0, h1⟩ := trodAll_two hA
  obtain ⟨rfl, rfl⟩ := trodVars_none hV
  obtain ⟨ad0, le0, ca0, rfl⟩ := okWide_slice Try.underlying22 (hval 0 22 v0 rfl rfl)
  obtain ⟨fu0, hf0⟩ := h0
  obtain ⟨A0, c0, xs0, hv0, hc0, hm0, hR0⟩ := open_rules (v := .slice ad0 le0 ca0) hf0
  injection hv0 with ea0 eb0 ec0
  subst ea0 eb0 ec0
  obtain ⟨ad1, le1, ca1, rfl⟩ := okWide_slice Try.underlying23 (hval 1 23 v1 rfl rfl)
  obtain ⟨fu1, hf1⟩ := h1
  obtain ⟨A1, c1, xs1, hv1, hc1, hm1, hR1⟩ := open_rows2 (v := .slice ad1 le1 ca1) Try.underlying23 (by kernel_rfl) Try.underlying31 Try.underlying3 (by kernel_rfl) hf1
  injection hv1 with ea1 eb1 ec1
  subst ea1 eb1 ec1
  refine (walk W ad0 ca0 xs0 hc0 hm0 hR0 ad1 ca1 xs1 hc1 hm1 hR1).mono fun e W' ⟨he, hb⟩ => ⟨_, he, ?_⟩
  exact law_post laidOut (by rw [Try.params3]; exact of_decide_eq_true (by kernel_rfl)) rfl rfl Try.underlying4 hW' rfl hb
theorem holds : Rows.TransstreamWholeSaid :=
  OpenClaim.holds_of_wide 3 Try.f3 rfl rfl rfl rfl rfl rfl rfl ⟨rfl, rfl, rfl, rfl, rfl⟩ rfl rfl rfl rfl rfl (by kernel_rfl) Try.func3 (by kernel_rfl)
    (of_decide_eq_true (by kernel_rfl)) (by unfold Func.isWrapper; first | (rw [if_pos (by decide +kernel)]; kernel_rfl) | (rw [if_neg (by decide +kernel)]; exact ⟨rfl, rfl⟩))
    (fun os started H enc _ => lifted os started H enc)
end Go.Proofs.Ytjohoohdjlajcaa.LWhole
namespace Go.Proofs.Ytjohoohdjlajcaa
theorem transstreamWhole_holds : Rows.TransstreamWholeSaid := LWhole.holds
end Go.Proofs.Ytjohoohdjlajcaa
