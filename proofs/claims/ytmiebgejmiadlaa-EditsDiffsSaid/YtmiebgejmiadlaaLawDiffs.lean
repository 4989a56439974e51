/-
  EditsDiffs: for every input the law returns true, and its arguments read as before. No condition.
-/
import Derived.Test.YtmiebgejmiadlaaRows
import Derived.Test.YtmiebgejmiadlaaEd9
import Derived.Test.YtmiebgejmiadlaaEd7
import Derived.Test.YtmiebgejmiadlaaLift
import Derived.Test.YtmiebgejmiadlaaSeq
namespace Go.Proofs.Ytmiebgejmiadlaa.LDiffs
open Go.ChangeShapes Go.WideShapes Go.ChangeAt Go.RowKit Go.UtYtmiebgejmiadlaa Go.Joins
set_option maxHeartbeats 1000000 in
theorem walk (w : World) (A : Option Addr) (c : Nat) (xs : List Int) (hc : xs.length ≤ c) (hm : c ≤ maxLen) (hR : Row w w.heap.size A (ints xs)) (hwf : ∀ n ∈ xs, -9223372036854775808 ≤ n ∧ n ≤ 9223372036854775807)
    (F : Option Addr) (fc : Nat) (ys : List Int) (hfc : ys.length ≤ fc) (hfm : fc ≤ maxLen) (hF : Row w w.heap.size F (ints ys)) (hwf' : ∀ n ∈ ys, -9223372036854775808 ≤ n ∧ n ≤ 9223372036854775807) :
    Calls Try.prog 4 #[.slice A xs.length c, .slice F ys.length fc] w fun e w' => e = .returned (.bool true) ∧ Below w.heap.size w w' := by
  clear hwf hwf' hm hfm
  have HR := Lib.hid hR
  have HF := Lib.hid hF
  clear hR hF
  cases hd : decide ((xs.length : Int) ≤ 60) with
  | false =>
    have HD := Lib.hid hd
    clear hd
    go_enter Try.func4, Try.ntmps4
    go_wp2_with fail
    refine (few_any _ _ _ _ _ HD.out).mono ?_
    rintro e w' ⟨rfl, rfl⟩
    go_wp2_with fail
    refine (alive_any _).mono ?_
    rintro e w1 ⟨rfl, hb⟩
    have HB := Lib.hid hb
    clear hb
    go_wp2_with fail
    go_ret
    exact ⟨rfl, HB.out⟩
  | true =>
    have h1 : xs.length ≤ 60 := by have := of_decide_eq_true hd; omega
    have HD := Lib.hid hd
    clear hd
    cases hd : decide ((ys.length : Int) ≤ 60) with
    | false =>
      have HD2 := Lib.hid hd
      clear hd
      go_enter Try.func4, Try.ntmps4
      go_wp2_with fail
      refine (few_any _ _ _ _ _ HD.out).mono ?_
      rintro e w' ⟨rfl, rfl⟩
      go_wp2_with fail
      refine (few_any _ _ _ _ _ HD2.out).mono ?_
      rintro e w' ⟨rfl, rfl⟩
      go_wp2_with fail
      refine (alive_any _).mono ?_
      rintro e w1 ⟨rfl, hb⟩
      have HB := Lib.hid hb
      clear hb
      go_wp2_with fail
      go_ret
      exact ⟨rfl, HB.out⟩
    | true =>
      have h2 : ys.length ≤ 60 := by have := of_decide_eq_true hd; omega
      have HD2 := Lib.hid hd
      clear hd
      obtain ⟨i, Hi⟩ : ∃ i, Hid (lcp xs ys = i) := ⟨_, rfl⟩
      obtain ⟨d, Hd⟩ : ∃ d, Hid (xs.length - dEnd xs ys - lcp xs ys = d) := ⟨_, rfl⟩
      obtain ⟨r, Hr⟩ : ∃ r, Hid (dIns xs ys = r) := ⟨_, rfl⟩
      go_enter Try.func4, Try.ntmps4
      go_wp2_with fail
      refine (few_any _ _ _ _ _ HD.out).mono ?_
      rintro e w' ⟨rfl, rfl⟩
      go_wp2_with fail
      refine (few_any _ _ _ _ _ HD2.out).mono ?_
      rintro e w' ⟨rfl, rfl⟩
      go_wp2_with fail
      refine (diff_any A F c fc _ xs ys w HR.out HF.out (Nat.le_refl _) (by omega) (by omega) hfc i d r Hi.out Hd.out Hr.out).mono ?_
      rintro e w1 ⟨A1, c1, rfl, hl1, hm1, hr1, -, hb1⟩
      have HR1 := Lib.hid hr1
      have HB1 := Lib.hid hb1
      have HL := Lib.hid (Nat.le_trans hl1 hm1)
      clear hr1 hb1 hl1 hm1
      go_wp2_with fail
      refine (diff2_any A F c fc _ xs ys w1 (HR.out.below HB1.out).lt (HF.out.below HB1.out).lt (Nat.le_refl _) (by omega) (by omega) hfc i d r Hi.out Hd.out Hr.out).mono ?_
      rintro e w2 ⟨A2, c2, rfl, -, -, hr2, -, hb2⟩
      have HR1' := Lib.hid (HR1.out.below hb2).lt
      have HR2 := Lib.hid hr2
      have HB2 := Lib.hid (below_then HB1.out hb2 (Nat.le_refl _))
      clear hr2 hb2 HR1 HB1
      go_wp2_with fail
      refine (same_eq i d A1 A2 c1 c2 _ r r w2 HR1'.out HR2.out (Nat.le_refl _) HL.out HL.out true (by simp)).mono ?_
      rintro e w3 ⟨rfl, hb3⟩
      have HB3 := Lib.hid (below_then HB2.out hb3 (Nat.le_refl _))
      clear hb3 HB2 HR1' HR2
      go_wp2_with fail
      refine (alive_any _).mono ?_
      rintro e w4 ⟨rfl, hb4⟩
      have HB4 := Lib.hid (below_then HB3.out hb4 (Nat.le_refl _))
      clear hb4
      go_wp2_with fail
      go_ret
      exact ⟨rfl, HB4.out⟩
theorem own : ownKnob Try.prog.godebug = none := by kernel_rfl
theorem laidOut : laidOutB Try.prog = true := by kernel_rfl
set_option maxRecDepth 100000 in
theorem lifted (os : Os) (started : os.Started) (H : Type) (enc : TypeId × Value → H) :
    ReturnsInHanded {} Try.checked os 4 .any (Rows.editsDiffsSpec.pre6 enc Try.prog Try.f4 Rows.editsDiffsRow.domain false) (Rows.editsDiffsSpec.post enc Try.prog Try.f4 false true false false) := by
  refine returnsInHanded_of_change (C := Try.checked) own started (by kernel_rfl) Try.func4
    (ChangeSpec.witness6 (enc := enc) (C := Try.checked) false ⟨#[], #[.slice none 0 0, .slice none 0 0], []⟩ 8 (by kernel_rfl) (by kernel_rfl) (by kernel_rfl) (by kernel_rfl)) ?_
  intro W base args ds gs before hval0 hW hcnd _
  have hval : ∀ (j : Nat) t v, Try.f4.params[j]? = some t → args[j]? = some v → Value.okWide Try.prog W .any base t v := hval0
  have hW' := hW
  obtain ⟨p, q, hA0, hV, rfl, hfz, hnd⟩ := hW
  have hA : DataW.TrodAll enc Try.prog W 0 (fun _ => true) true Try.f4.params.toList args.toList ds p := hA0
  rw [Try.params4] at hA hval
  obtain ⟨v0, v1, d0, d1, p0, p1, rfl, rfl, rfl, h0, h1⟩ := trodAll_two hA
  obtain ⟨rfl, rfl⟩ := trodVars_none hV
  obtain ⟨ad0, le0, ca0, rfl⟩ := okWide_slice Try.underlying22 (hval 0 22 v0 rfl rfl)
  obtain ⟨fu0, hf0⟩ := h0
  obtain ⟨A0, c0, xs0, hv0, hc0, hm0, hR0, hwf0⟩ := open_row (v := .slice ad0 le0 ca0) Try.underlying22 Try.underlying3 (by kernel_rfl) hf0
  injection hv0 with ea0 eb0 ec0
  subst ea0 eb0 ec0
  obtain ⟨ad1, le1, ca1, rfl⟩ := okWide_slice Try.underlying22 (hval 1 22 v1 rfl rfl)
  obtain ⟨fu1, hf1⟩ := h1
  obtain ⟨A1, c1, xs1, hv1, hc1, hm1, hR1, hwf1⟩ := open_row (v := .slice ad1 le1 ca1) Try.underlying22 Try.underlying3 (by kernel_rfl) hf1
  injection hv1 with ea1 eb1 ec1
  subst ea1 eb1 ec1
  refine (walk W ad0 ca0 xs0 hc0 hm0 hR0 (fun n hn => wf_i64 (hwf0 n hn)) ad1 ca1 xs1 hc1 hm1 hR1 (fun n hn => wf_i64 (hwf1 n hn))).mono fun e W' ⟨he, hb⟩ => ⟨_, he, ?_⟩
  exact law_post laidOut (by rw [Try.params4]; exact of_decide_eq_true (by kernel_rfl)) rfl rfl Try.underlying4 hW' rfl hb
theorem holds : Rows.EditsDiffsSaid :=
  OpenClaim.holds_of_wide 4 Try.f4 rfl rfl rfl rfl rfl rfl rfl ⟨rfl, rfl, rfl, rfl, rfl⟩ rfl rfl rfl rfl rfl (by kernel_rfl) Try.func4 (by kernel_rfl)
    (of_decide_eq_true (by kernel_rfl)) (by unfold Func.isWrapper; first | (rw [if_pos (by decide +kernel)]; kernel_rfl) | (rw [if_neg (by decide +kernel)]; exact ⟨rfl, rfl⟩))
    (fun os started H enc _ => lifted os started H enc)
end Go.Proofs.Ytmiebgejmiadlaa.LDiffs
namespace Go.Proofs.Ytmiebgejmiadlaa
theorem editsDiffs_holds : Rows.EditsDiffsSaid := LDiffs.holds
end Go.Proofs.Ytmiebgejmiadlaa
