/-
  SeqpoolPacks: for every input the law returns true, and its arguments read as before. No condition.
-/
import Derived.Test.YteobffcnfigilaaRows
import Derived.Test.YteobffcnfigilaaLift
import Derived.Test.YteobffcnfigilaaLst
import Derived.Test.YteobffcnfigilaaSp10
import Derived.Test.YteobffcnfigilaaTree
import Derived.Deep.DeepCutAuto
import Derived.Deep.CutBlock
namespace Go.Proofs.Yteobffcnfigilaa.LPacks
open Go.ChangeShapes Go.WideShapes Go.ChangeAt Go.RowKit Go.UtYteobffcnfigilaa Go.Joins
attribute [local go_sem high] cut_l cut_lh cut_lhm cutA_zero
attribute [local go_sem 500] cut_any
set_option maxRecDepth 100000 in
set_option maxHeartbeats 4000000 in
theorem walk (w : World) (A : Option Addr) (c : Nat) (l : List (List Int)) (lc : l.length ≤ c) (lm : c ≤ maxLen) (hA : Rows2 w w.heap.size A l) :
    Calls Try.prog 3 #[.slice A l.length c] w fun e w' => e = .returned (.bool true) ∧ Below w.heap.size w w' := by
  have hlm := Nat.le_trans lc lm
  have HA0 := Lib.hid hA
  clear hA
  have HB0 := Lib.hid (Below.refl w.heap.size w)
  obtain ⟨bHD, hd⟩ : ∃ b, fewB l = b := ⟨_, rfl⟩
  have HD := Lib.hid hd
  cases bHD with
  | false =>
    clear hd
    go_enter Try.func3, Try.ntmps3
    go_wp2_with fail
    refine (few_any _ _ _ _ _ HA0.out hlm _ HD.out).mono ?_
    rintro e w' ⟨rfl, rfl⟩
    go_wp2_with fail
    refine (alive_any _).mono ?_
    rintro e w1 ⟨rfl, hb⟩
    have hbc := hb
    have HA2 := Lib.hid ((HA0.out.below hbc).lt)
    have HB2 := Lib.hid (below_then HB0.out hbc (Nat.le_refl _))
    clear hbc HA0 HB0 hb
    go_wp2
    go_ret
    exact ⟨rfl, HB2.out⟩
  | true =>
    clear hd
    go_enter Try.func3, Try.ntmps3
    go_wp2_with fail
    refine (few_any _ _ _ _ _ HA0.out hlm _ HD.out).mono ?_
    rintro e w' ⟨rfl, rfl⟩
    go_wp2_with fail
    refine (pack_any A c l _ HA0.out HD.out).mono ?_
    rintro e w3 ⟨A1, c1, A2, c2, A3, c3, rfl, hp, hb⟩
    have hbc := hb
    have HA4 := Lib.hid ((HA0.out.below hbc).lt)
    have HB4 := Lib.hid (below_then HB0.out hbc (Nat.le_refl _))
    have P14 := Lib.hid (hp)
    clear hbc HA0 HB0 hb
    clear hp
    go_wp2_with fail
    refine (pack2_any A c l _ HA4.out HD.out).mono ?_
    rintro e w5 ⟨B1, b1, B2, b2, B3, b3, rfl, hp, hb⟩
    have hbc := hb
    have HA6 := Lib.hid ((HA4.out.below hbc).lt)
    have HB6 := Lib.hid (below_then HB4.out hbc (Nat.le_refl _))
    have P16 := Lib.hid ((P14.out.below hbc).lt)
    have P26 := Lib.hid (hp)
    clear hbc HA4 HB4 P14 hb
    clear hp
    go_wp2_with fail
    refine (same_any A1 A2 A3 B1 B2 B3 c1 c2 c3 b1 b2 b3 _ _ _ P16.out P26.out rfl).mono ?_
    rintro e w7 ⟨rfl, hb⟩
    have hbc := hb
    have HA8 := Lib.hid ((HA6.out.below hbc).lt)
    have HB8 := Lib.hid (below_then HB6.out hbc (Nat.le_refl _))
    have P18 := Lib.hid ((P16.out.below hbc).lt)
    have P28 := Lib.hid ((P26.out.below hbc).lt)
    clear hbc HA6 HB6 P16 P26 hb
    go_wp2_with fail
    refine (alive_any _).mono ?_
    rintro e w9 ⟨rfl, hb⟩
    have hbc := hb
    have HA10 := Lib.hid ((HA8.out.below hbc).lt)
    have HB10 := Lib.hid (below_then HB8.out hbc (Nat.le_refl _))
    have P110 := Lib.hid ((P18.out.below hbc).lt)
    have P210 := Lib.hid ((P28.out.below hbc).lt)
    clear hbc HA8 HB8 P18 P28 hb
    go_wp2
    go_ret
    exact ⟨rfl, HB10.out⟩
theorem own : ownKnob Try.prog.godebug = none := by kernel_rfl
theorem laidOut : laidOutB Try.prog = true := by kernel_rfl
set_option maxRecDepth 100000 in
theorem lifted (os : Os) (started : os.Started) (H : Type) (enc : TypeId × Value → H) :
    ReturnsInHanded {} Try.checked os 3 .any (Rows.seqpoolPacksSpec.pre6 enc Try.prog Try.f3 Rows.seqpoolPacksRow.domain false) (Rows.seqpoolPacksSpec.post enc Try.prog Try.f3 false true false false) := by
  refine returnsInHanded_of_change (C := Try.checked) own started (by kernel_rfl) Try.func3
    (ChangeSpec.witness6 (enc := enc) (C := Try.checked) false ⟨#[], #[.slice none 0 0], []⟩ 8 (by kernel_rfl) (by kernel_rfl) (by kernel_rfl) (by kernel_rfl)) ?_
  intro W base args ds gs before hval0 hW hcnd _
  have hval : ∀ (j : Nat) t v, Try.f3.params[j]? = some t → args[j]? = some v → Value.okWide Try.prog W .any base t v := hval0
  have hW' := hW
  obtain ⟨p, q, hA0, hV, rfl, hfz, hnd⟩ := hW
  have hA : DataW.TrodAll enc Try.prog W 0 (fun _ => true) true Try.f3.params.toList args.toList ds p := hA0
  rw [Try.params3] at hA hval
  obtain ⟨v0, vs0, d0, ds0, p0, q0, hargs, rfl, rfl, h0, r0⟩ := trodAll_cons hA
  obtain ⟨rfl, rfl, rfl⟩ := trodAll_nil r0
  obtain rfl : args = #[v0] := by cases args; simp_all
  obtain ⟨rfl, rfl⟩ := trodVars_none hV
  obtain ⟨ad0, le0, ca0, rfl⟩ := okWide_slice Try.underlying22 (hval 0 22 v0 rfl rfl)
  obtain ⟨fu0, hf0⟩ := h0
  obtain ⟨A0, c0, xs0, hv0, hc0, hm0, hR0⟩ := open_rows2 (v := .slice ad0 le0 ca0) Try.underlying22 (by kernel_rfl) Try.underlying25 Try.underlying3 (by kernel_rfl) hf0
  injection hv0 with ea0 eb0 ec0
  subst ea0 eb0 ec0
  refine (walk W ad0 ca0 xs0 hc0 hm0 hR0).mono fun e W' ⟨he, hb⟩ => ⟨_, he, ?_⟩
  exact law_post laidOut (by rw [Try.params3]; exact of_decide_eq_true (by kernel_rfl)) rfl rfl Try.underlying4 hW' rfl hb
theorem holds : Rows.SeqpoolPacksSaid :=
  OpenClaim.holds_of_wide 3 Try.f3 rfl rfl rfl rfl rfl rfl rfl ⟨rfl, rfl, rfl, rfl, rfl⟩ rfl rfl rfl rfl rfl (by kernel_rfl) Try.func3 (by kernel_rfl)
    (of_decide_eq_true (by kernel_rfl)) (by unfold Func.isWrapper; first | (rw [if_pos (by decide +kernel)]; kernel_rfl) | (rw [if_neg (by decide +kernel)]; exact ⟨rfl, rfl⟩))
    (fun os started H enc _ => lifted os started H enc)
end Go.Proofs.Yteobffcnfigilaa.LPacks
namespace Go.Proofs.Yteobffcnfigilaa
theorem seqpoolPacks_holds : Rows.SeqpoolPacksSaid := LPacks.holds
end Go.Proofs.Yteobffcnfigilaa
