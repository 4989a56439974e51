/-
  TransstreamWaits: for every input the law returns true, and its arguments read as before. No condition.
-/
import Derived.Test.YtjohoohdjlajcaaRows
import Derived.Test.YtjohoohdjlajcaaLift
import Derived.Test.YtjohoohdjlajcaaTlo
import Derived.Test.YtjohoohdjlajcaaSa0
import Derived.Test.YtjohoohdjlajcaaTu3
import Derived.Test.YtjohoohdjlajcaaTu5
import Derived.Deep.CutBlock
import Derived.Test.YtjohoohdjlajcaaSb0
namespace Go.Proofs.Ytjohoohdjlajcaa.LWaits
open Go.ChangeShapes Go.WideShapes Go.ChangeAt Go.RowKit Go.UtYtjohoohdjlajcaa Go.Joins
attribute [local go_sem high] cut_l max2_int
set_option maxRecDepth 100000 in
set_option maxHeartbeats 4000000 in
theorem walk (w : World) (A : Option Addr) (c : Nat) (rules : List TR) (lc : rules.length ≤ c) (lm : c ≤ maxLen) (hR : RulesAt w w.heap.size A rules) (Am : Option Addr) (cm : Nat) (texts : List (List Int)) (_lcm : texts.length ≤ cm) (_lmm : cm ≤ maxLen) (hM : Rows2 w w.heap.size Am texts) :
    Calls Try.prog 7 #[.slice A rules.length c, .slice Am texts.length cm] w fun e w' => e = .returned (.bool true) ∧ Below w.heap.size w w' := by
  have HR := Lib.hid hR
  have HM := Lib.hid hM
  have HLC := Lib.hid lc
  have HLM := Lib.hid lm
  clear hR hM lc lm _lcm _lmm
  obtain ⟨i0, hi0, hz0, hz1, hz2⟩ := info_parts in_info
  by_cases hf : ¬ smB rules
  · go_enter Try.func7, Try.ntmps7
    go_wp2_with fail
    refine (smallB_any A c rules w HR.out false ⟨fun h => (by cases h), fun h => absurd h hf⟩).mono ?_
    rintro e w1 ⟨rfl, hb1⟩
    have HB1 := Lib.hid hb1
    have HR1 := Lib.hid (HR.out.below hb1).lt
    clear hb1
    go_wp2_with fail
    refine (awake_any _).mono ?_
    rintro e w2 ⟨rfl, hb2⟩
    have HB2 := Lib.hid (HB1.out.trans (hb2.mono HB1.out.size))
    clear hb2
    go_wp2
    go_ret
    exact ⟨rfl, HB2.out⟩
  replace hf := Classical.not_not.1 hf
  by_cases hg : ¬ (texts.length ≤ 8 ∧ ∀ t ∈ texts, t.length ≤ 30)
  · go_enter Try.func7, Try.ntmps7
    go_wp2_with fail
    refine (smallB_any A c rules w HR.out true ⟨fun _ => hf, fun _ => rfl⟩).mono ?_
    rintro e w1 ⟨rfl, hb1⟩
    have HB1 := Lib.hid hb1
    have HR1 := Lib.hid (HR.out.below hb1).lt
    clear hb1
    have HM1 := Lib.hid (HM.out.below HB1.out).lt
    go_wp2_with fail
    refine (few52_any Am cm texts w1 HM1.out false ⟨fun h => (by cases h), fun h => absurd h hg⟩).mono ?_
    rintro e w1' ⟨rfl, hw1⟩
    subst w1'
    go_wp2_with fail
    refine (awake_any _).mono ?_
    rintro e w2 ⟨rfl, hb2⟩
    have HB2 := Lib.hid (HB1.out.trans (hb2.mono HB1.out.size))
    clear hb2
    go_wp2
    go_ret
    exact ⟨rfl, HB2.out⟩
  replace hg := Classical.not_not.1 hg
  have h8 := hg.1
  have HT30 := Lib.hid hg.2
  have HF := Lib.hid hf
  go_enter Try.func7, Try.ntmps7
  go_wp2_with fail
  refine (smallB_any A c rules w HR.out true ⟨fun _ => hf, fun _ => rfl⟩).mono ?_
  rintro e w1 ⟨rfl, hb1⟩
  have HB1 := Lib.hid hb1
  have HR1 := Lib.hid (HR.out.below hb1).lt
  clear hb1
  have HM1 := Lib.hid (HM.out.below HB1.out).lt
  go_wp2_with fail
  refine (few52_any Am cm texts w1 HM1.out true ⟨fun _ => hg, fun _ => rfl⟩).mono ?_
  rintro e w1' ⟨rfl, hw1⟩
  subst w1'
  have HM0 := HM
  clear hg hf HR
  go_wp2_with fail
  refine (new_g A c rules.length w.heap.size rules w1 HR1.out HF.out rfl HLC.out HLM.out HB1.out.size).mono ?_
  rintro e w2 (⟨x, hx0, HX, rfl, HBx⟩ | ⟨gs, bf, ah, rfl, HGS, H0, HOK, HBA, HS0, HBx⟩)
  · have HB2 := Lib.hid (HB1.out.trans (HBx.out.mono HB1.out.size))
    go_wp2_with fail
    refine (awake_any _).mono ?_
    rintro e w3 ⟨rfl, hb3⟩
    have HB3 := Lib.hid (HB2.out.trans (hb3.mono HB2.out.size))
    clear hb3
    go_wp2
    go_ret
    exact ⟨rfl, HB3.out⟩
  have HB2 := Lib.hid (HB1.out.trans (HBx.out.mono HB1.out.size))
  have HR2 := Lib.hid (HR1.out.below HBx.out).lt
  obtain ⟨b2, hb2⟩ : ∃ n, bfR (dataL rules) = n := ⟨_, rfl⟩
  obtain ⟨a2, ha2⟩ : ∃ n, ahR (dataL rules) = n := ⟨_, rfl⟩
  have HBA2 := Lib.hid (And.intro hb2 ha2)
  clear hb2 ha2
  go_wp2_with fail
  refine (rReach_any A c rules w2 HR2.out HF.out.smR HLC.out HLM.out b2 a2 HBA2.out.1 HBA2.out.2).mono ?_
  rintro e w3 ⟨rfl, hb3⟩
  have HB3 := Lib.hid (HB2.out.trans (hb3.mono HB2.out.size))
  have HBL3 := Lib.hid hb3
  clear hb3
  have HSE := Lib.hid (HS0.out (fun _ => False) (fun _ h => h.elim))
  have HS3 := Lib.hid (HSE.out.keep HBL3.out.size (fun b hb _ => HBL3.out.block b hb))
  have k1 : max (a2 : Int) 1 = (ah : Int) := by
    have hq := HBA.out.2
    have hq2 := HBA2.out.2
    rw [data_same H0.out] at hq2
    omega
  go_wp2_with fail
  go_loopw [9, 10] (fun vi i wr => ∃ (k p ni ci : Nat) (Ai : Option Addr) (Y : Nat → Prop) (inp out : List Int), k ≤ texts.length ∧ i = .int .i64 (k : Int) ∧ vi = .slice Ai ni ci ∧ ni ≤ 30 * k ∧ Hid (inp.length = ni) ∧ Hid (Got rules ah inp out p) ∧ Hid (wr.ownsRow w.heap.size 3 1 (.slice Ai ni ci) ni (ints inp)) ∧ Hid (StrAt wr Y (fun x => (Value.slice Ai ni ci).ownBlock = some x ∨ False) w.heap.size gs rules bf ah inp p) ∧ Hid (Below w.heap.size w wr)) (fun _ i _ => texts.length - (intOf i).toNat)
  case atStart => exact ⟨0, 0, 0, 0, none, _, [], [], by omega, rfl, rfl, by omega, rfl, Got.nil HOK.out, own_nil _, HS3.out.newX (fun x hx => by simp [Value.ownBlock] at hx), HB3⟩
  case round =>
    obtain ⟨k, p, ni, ci, Ai, Y, inp, out, hk, rfl, rfl, hil, HNI, HG, HO, HS, HB⟩ := hrel
    have HXL : ∀ x, (fun x => (Value.slice Ai ni ci).ownBlock = some x ∨ False) x → x < wr.heap.size := fun x h => (own_lt HO.out x (h.resolve_right id)).2.1
    by_cases hkn : k < texts.length
    · obtain ⟨b, o, A', c', t, rfl, hb, hx, cc, l1, l2, ht⟩ := (HM0.out.below HB.out).at_ (k := k) hkn
      have htl := HT30.out t (List.mem_of_getElem? hx.out)
      obtain ⟨m, hm⟩ : ∃ m, t.length = m := ⟨_, rfl⟩
      rw [hm] at cc htl l1
      have HTL := Lib.hid hm
      have HTB := Lib.hid ht
      have HTW := Lib.hid (ht.more HB.out.size)
      have hbs := HB.out.size
      clear hm ht
      go_wp2_with fail
      refine (write_g Y _ w.heap.size gs rules bf ah inp t out p m A' c' wr HS.out HXL HOK.out HTW.out HTL.out (by rw [HNI.out]; omega) HG.out).mono ?_
      rintro e w5 ⟨A5, n5, c5, Y5, ro, p5, rfl, hn5, HC5, HL5, HG5, HR5, HS5, HST⟩
      have HB5 := Lib.hid (HB.out.trans (HST.out.1.mono (Nat.le_refl _)))
      have hbs5 := HB5.out.size
      have HI5 : Hid ((inp ++ t).length = inp.length + m) := by
        show _ = _
        rw [List.length_append, HTL.out]
      have HO5 := Lib.hid (own_step HO.out HS.out (fun x hx => .inl hx) HST.out)
      have cc5 := (HST.out.1.cell (p := ⟨b, o + k, none⟩) hb).trans cc
      have HT5 := Lib.hid (HTB.out.below HST.out.1)
      go_wp2_with (first
        | (at_builtin
           refine wpList_append_row _ rfl (.tmp 61) (.tmp 65) _ rfl w.heap.size 3 i0 _ 1 8 Try.underlying31 hi0 hz0 hz1 hz2 rfl (by omega) (.slice Ai ni ci) ni (ints inp) rfl HO5.out _ _ m c' (ints t) rfl (by rw [ints_len, HTL.out, Nat.mul_one]) HT5.out (ints_one _) (by simp only [maxLen]; omega) (by omega) hbs5 ?_
           intro v w6 o1 g1 t1
           rw [← ints_append] at o1
           obtain ⟨A6, c6, rfl⟩ := ow_slice (m := ni + m) o1 rfl
           have O1 := Lib.hid o1
           have G1 := Lib.hid g1
           have T1 := Lib.hid t1
           clear o1 g1 t1))
      have HS6 := Lib.hid (HS5.out.app G1.out T1.out)
      have HB6 := Lib.hid (HB5.out.grown G1.out hbs5 (fun x hx => own_base HO5.out x hx))
      have hbs6 := HB6.out.size
      have HI6 : Hid ((inp ++ t).length = ni + m) := by
        show _ = _
        rw [HI5.out, HNI.out]
      go_wp2_with fail
      refine (pend_g Y5 _ w.heap.size gs rules bf ah (inp ++ t) p5 w6 HS6.out (by rw [HI6.out]; omega)).mono ?_
      rintro e w7 ⟨A7, n7, c7, rfl, HN7, hn7, HR7, HBL7⟩
      have HB7 := Lib.hid (HB6.out.trans (HBL7.out.mono hbs6))
      have HS7 := Lib.hid (HS6.out.keep HBL7.out.size (fun b hb _ => HBL7.out.block b hb))
      have HO7 := Lib.hid (ow_below O1.out HBL7.out)
      have hle := HG5.out.le HOK.out
      rw [HI6.out] at hle
      have hn7' := HN7.out
      rw [HI6.out] at hn7'
      have f1 : n7 < ah := by omega
      have f2 : n7 ≤ ni + m := by omega
      have f3 : ni + m = p5 + n7 := by omega
      have d1 : decide (ah ≤ n7) = false := decide_eq_false (by omega)
      have d2 : decide (ni + m < n7) = false := decide_eq_false (by omega)
      have d3 : decide ((ah : Int) ≤ (n7 : Int)) = false := decide_eq_false (by omega)
      have d4 : decide (((ni + m : Nat) : Int) < (n7 : Int)) = false := decide_eq_false (by omega)
      obtain ⟨N, hN⟩ : ∃ N, ni + m = N := ⟨_, rfl⟩
      have HNN := Lib.hid hN
      have HRI := Lib.hid ((ow_row HO7.out).1.tail (l := p5) (c := c6) (by rw [HI6.out]; exact (ow_row HO7.out).2.1))
      have k2 : ((N : Nat) : Int) - (n7 : Int) = (p5 : Int) := by omega
      have k3 : (0 : Int) ≤ (p5 : Int) := by omega
      have k4 : (p5 : Int) ≤ (N : Int) := by omega
      have k5 : N - p5 = n7 := by omega
      have k6 : wrap64 (p5 : Int) = (p5 : Int) := IntWalk.wrap64_in _ (by omega)
      clear hn7' hle f3
      rw [hN] at d2 d4
      rw [hN]
      clear hN
      go_wp2_with fail
      refine (requal_v A7 (cutA A6 c6 p5 1) c7 _ _ n7 _ ((inp ++ t).drop p5) ((inp ++ t).drop p5) w7 HR7.out HRI.out (by rw [List.length_drop, HI6.out, HNN.out]; exact k5) (by rw [List.length_drop, HI6.out, HNN.out]; first | done | exact k5) (by simp only [maxLen]; omega) (by simp only [maxLen]; omega) true (by simp)).mono ?_
      rintro e w8 ⟨rfl, hb8⟩
      have HB8 := Lib.hid (HB7.out.trans (hb8.mono HB7.out.size))
      have HS8 := Lib.hid (HS7.out.keep hb8.size (fun b hb _ => hb8.block b hb))
      have HO8 := Lib.hid (ow_below HO7.out hb8)
      clear hb8
      go_wp2_with fail
      go_roundw
      case rel => exact ⟨k + 1, p5, ni + m, c6, A6, Y5, inp ++ t, out ++ ro, by omega, by go_num, by rw [HNN.out], by omega, HI6, HG5, HO8, HS8, HB8⟩
      case measure => simp [intOf]; omega
    · go_wp2_with fail
      refine (awake_any _).mono ?_
      rintro e w5 ⟨rfl, hb5⟩
      have HB5 := Lib.hid (HB.out.trans (hb5.mono HB.out.size))
      clear hb5
      go_wp2
      go_ret
      exact ⟨rfl, HB5.out⟩
theorem own : ownKnob Try.prog.godebug = none := by kernel_rfl
theorem laidOut : laidOutB Try.prog = true := by kernel_rfl
set_option maxRecDepth 100000 in
theorem lifted (os : Os) (started : os.Started) (H : Type) (enc : TypeId × Value → H) :
    ReturnsInHanded {} Try.checked os 7 .any (Rows.transstreamWaitsSpec.pre6 enc Try.prog Try.f7 Rows.transstreamWaitsRow.domain false) (Rows.transstreamWaitsSpec.post enc Try.prog Try.f7 false true false false) := by
  refine returnsInHanded_of_change (C := Try.checked) own started (by kernel_rfl) Try.func7
    (ChangeSpec.witness6 (enc := enc) (C := Try.checked) false ⟨#[], #[.slice none 0 0, .slice none 0 0], []⟩ 8 (by kernel_rfl) (by kernel_rfl) (by kernel_rfl) (by kernel_rfl)) ?_
  intro W base args ds gs before hval0 hW hcnd _
  have hval : ∀ (j : Nat) t v, Try.f7.params[j]? = some t → args[j]? = some v → Value.okWide Try.prog W .any base t v := hval0
  have hW' := hW
  obtain ⟨p, q, hA0, hV, rfl, hfz, hnd⟩ := hW
  have hA : DataW.TrodAll enc Try.prog W 0 (fun _ => true) true Try.f7.params.toList args.toList ds p := hA0
  rw [Try.params7] at hA hval
  obtain ⟨v0, v1, d0, d1, p0, p1, rfl, rfl, rfl, h0, h1⟩ := trodAll_two hA
  obtain ⟨rfl, rfl⟩ := trodVars_none hV
  obtain ⟨ad0, le0, ca0, rfl⟩ := okWide_slice Try.underlying22 (hval 0 22 v0 rfl rfl)
  obtain ⟨fu0, hf0⟩ := h0
  obtain ⟨A0, c0, xs0, hv0, hc0, hm0, hR0⟩ := open_rules (v := .slice ad0 le0 ca0) hf0
  injection hv0 with ea0 eb0 ec0
  subst ea0 eb0 ec0
  obtain ⟨ad1, le1, ca1, rfl⟩ := okWide_slice Try.underlying23 (hval 1 23 v1 rfl rfl)
  obtain ⟨fu1, hf1⟩ := h1
  obtain ⟨A1, c1, xs1, hv1, hc1, hm1, hR1⟩ := open_rows2 (v := .slice ad1 le1 ca1) Try.underlying23 (by kernel_rfl) Try.underlying31 Try.underlying3 (by kernel_rfl) hf1
  injection hv1 with ea1 eb1 ec1
  subst ea1 eb1 ec1
  refine (walk W ad0 ca0 xs0 hc0 hm0 hR0 ad1 ca1 xs1 hc1 hm1 hR1).mono fun e W' ⟨he, hb⟩ => ⟨_, he, ?_⟩
  exact law_post laidOut (by rw [Try.params7]; exact of_decide_eq_true (by kernel_rfl)) rfl rfl Try.underlying4 hW' rfl hb
theorem holds : Rows.TransstreamWaitsSaid :=
  OpenClaim.holds_of_wide 7 Try.f7 rfl rfl rfl rfl rfl rfl rfl ⟨rfl, rfl, rfl, rfl, rfl⟩ rfl rfl rfl rfl rfl (by kernel_rfl) Try.func7 (by kernel_rfl)
    (of_decide_eq_true (by kernel_rfl)) (by unfold Func.isWrapper; first | (rw [if_pos (by decide +kernel)]; kernel_rfl) | (rw [if_neg (by decide +kernel)]; exact ⟨rfl, rfl⟩))
    (fun os started H enc _ => lifted os started H enc)
end Go.Proofs.Ytjohoohdjlajcaa.LWaits
namespace Go.Proofs.Ytjohoohdjlajcaa
theorem transstreamWaits_holds : Rows.TransstreamWaitsSaid := LWaits.holds
end Go.Proofs.Ytjohoohdjlajcaa
