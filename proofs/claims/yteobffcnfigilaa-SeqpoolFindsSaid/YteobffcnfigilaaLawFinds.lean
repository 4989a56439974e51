/-
  SeqpoolFinds: for every input the law returns true, and its arguments read as before. No condition.
-/
import Derived.Test.YteobffcnfigilaaRows
import Derived.Test.YteobffcnfigilaaLift
import Derived.Test.YteobffcnfigilaaLst
import Derived.Test.YteobffcnfigilaaSp10
import Derived.Test.YteobffcnfigilaaTree
import Derived.Deep.DeepCutAuto
import Derived.Deep.CutBlock
namespace Go.Proofs.Yteobffcnfigilaa.LFinds
open Go.ChangeShapes Go.WideShapes Go.ChangeAt Go.RowKit Go.UtYteobffcnfigilaa Go.Joins
attribute [local go_sem high] cut_l cut_lh cut_lhm cutA_zero
attribute [local go_sem 500] cut_any
set_option maxRecDepth 100000 in
set_option maxHeartbeats 4000000 in
theorem walk (w : World) (C : Option Addr) (cC : Nat) (S : Option Addr) (cS : Nat) (L : Option Addr) (cL : Nat) (p : Pl) (hp : PlAt w w.heap.size C cC S cS L cL p) (A : Option Addr) (c : Nat) (seq : List Int) (lc : seq.length ≤ c) (lm : c ≤ maxLen) (hA : Row w w.heap.size A (ints seq)) :
    Calls Try.prog 5 #[.agg #[.slice C p.C.length cC, .slice S p.S.length cS, .slice L p.L.length cL], .slice A seq.length c] w fun e w' => e = .returned (.bool true) ∧ Below w.heap.size w w' := by
  have HP0 := Lib.hid hp
  have HA0 := Lib.hid hA
  clear hp hA
  have HB0 := Lib.hid (Below.refl w.heap.size w)
  obtain ⟨bHD, hd⟩ : ∃ b, decide (p.C.length ≤ 200 ∧ p.S.length ≤ 40 ∧ p.L.length ≤ 40) = b := ⟨_, rfl⟩
  have HD := Lib.hid hd
  cases bHD with
  | false =>
    clear hd
    go_enter Try.func5, Try.ntmps5
    go_wp2_with fail
    obtain ⟨n1, hv, hbb, hk0⟩ : ∃ v, v = (w.alloc (.cells #[.slice C p.C.length cC, .slice S p.S.length cS, .slice L p.L.length cL] 27)) ∧ Below w.heap.size w v ∧ Blk v (w.heap.size) 27 #[.slice C p.C.length cC, .slice S p.S.length cS, .slice L p.L.length cL] :=
      ⟨_, rfl, (Below.refl _ _).alloc (Nat.le_refl _) _, Blk.at_new (by simp; try omega)⟩
    rw [← hv]
    clear hv
    have hbc := hbb
    have HP2 := Lib.hid ((HP0.out.below hbc).lt)
    have HA2 := Lib.hid ((HA0.out.below hbc).lt)
    have HB2 := Lib.hid (below_then HB0.out hbc (Nat.le_refl _))
    have KP2 := Lib.hid (hk0)
    clear hbc HP0 HA0 HB0 hbb hk0
    refine (small_any C S L _ _ _ cC cS cL _ _ HD.out).mono ?_
    rintro e w3 ⟨rfl, hb⟩
    have hbc := hb
    have HP4 := Lib.hid ((HP2.out.below hbc).lt)
    have HA4 := Lib.hid ((HA2.out.below hbc).lt)
    have HB4 := Lib.hid (below_then HB2.out hbc (Nat.le_refl _))
    have KP4 := Lib.hid (KP2.out.after hbc)
    clear hbc HP2 HA2 HB2 KP2 hb
    go_wp2_with fail
    refine (alive_any _).mono ?_
    rintro e w5 ⟨rfl, hb⟩
    have hbc := hb
    have HP6 := Lib.hid ((HP4.out.below hbc).lt)
    have HA6 := Lib.hid ((HA4.out.below hbc).lt)
    have HB6 := Lib.hid (below_then HB4.out hbc (Nat.le_refl _))
    have KP6 := Lib.hid (KP4.out.after hbc)
    clear hbc HP4 HA4 HB4 KP4 hb
    go_wp2
    go_ret
    exact ⟨rfl, HB6.out⟩
  | true =>
    obtain ⟨f1, f2, f3⟩ := of_decide_eq_true hd
    clear hd
    by_cases h20 : 200 < seq.length
    · go_enter Try.func5, Try.ntmps5
      go_wp2_with fail
      obtain ⟨n7, hv, hbb, hk0⟩ : ∃ v, v = (w.alloc (.cells #[.slice C p.C.length cC, .slice S p.S.length cS, .slice L p.L.length cL] 27)) ∧ Below w.heap.size w v ∧ Blk v (w.heap.size) 27 #[.slice C p.C.length cC, .slice S p.S.length cS, .slice L p.L.length cL] :=
        ⟨_, rfl, (Below.refl _ _).alloc (Nat.le_refl _) _, Blk.at_new (by simp; try omega)⟩
      rw [← hv]
      clear hv
      have hbc := hbb
      have HP8 := Lib.hid ((HP0.out.below hbc).lt)
      have HA8 := Lib.hid ((HA0.out.below hbc).lt)
      have HB8 := Lib.hid (below_then HB0.out hbc (Nat.le_refl _))
      have KP8 := Lib.hid (hk0)
      clear hbc HP0 HA0 HB0 hbb hk0
      refine (small_any C S L _ _ _ cC cS cL _ _ HD.out).mono ?_
      rintro e w9 ⟨rfl, hb⟩
      have hbc := hb
      have HP10 := Lib.hid ((HP8.out.below hbc).lt)
      have HA10 := Lib.hid ((HA8.out.below hbc).lt)
      have HB10 := Lib.hid (below_then HB8.out hbc (Nat.le_refl _))
      have KP10 := Lib.hid (KP8.out.after hbc)
      clear hbc HP8 HA8 HB8 KP8 hb
      go_wp2_with fail
      refine (alive_any _).mono ?_
      rintro e w11 ⟨rfl, hb⟩
      have hbc := hb
      have HP12 := Lib.hid ((HP10.out.below hbc).lt)
      have HA12 := Lib.hid ((HA10.out.below hbc).lt)
      have HB12 := Lib.hid (below_then HB10.out hbc (Nat.le_refl _))
      have KP12 := Lib.hid (KP10.out.after hbc)
      clear hbc HP10 HA10 HB10 KP10 hb
      go_wp2
      go_ret
      exact ⟨rfl, HB12.out⟩
    · go_enter Try.func5, Try.ntmps5
      go_wp2_with fail
      obtain ⟨n13, hv, hbb, hk0⟩ : ∃ v, v = (w.alloc (.cells #[.slice C p.C.length cC, .slice S p.S.length cS, .slice L p.L.length cL] 27)) ∧ Below w.heap.size w v ∧ Blk v (w.heap.size) 27 #[.slice C p.C.length cC, .slice S p.S.length cS, .slice L p.L.length cL] :=
        ⟨_, rfl, (Below.refl _ _).alloc (Nat.le_refl _) _, Blk.at_new (by simp; try omega)⟩
      rw [← hv]
      clear hv
      have hbc := hbb
      have HP14 := Lib.hid ((HP0.out.below hbc).lt)
      have HA14 := Lib.hid ((HA0.out.below hbc).lt)
      have HB14 := Lib.hid (below_then HB0.out hbc (Nat.le_refl _))
      have KP14 := Lib.hid (hk0)
      clear hbc HP0 HA0 HB0 hbb hk0
      refine (small_any C S L _ _ _ cC cS cL _ _ HD.out).mono ?_
      rintro e w15 ⟨rfl, hb⟩
      have hbc := hb
      have HP16 := Lib.hid ((HP14.out.below hbc).lt)
      have HA16 := Lib.hid ((HA14.out.below hbc).lt)
      have HB16 := Lib.hid (below_then HB14.out hbc (Nat.le_refl _))
      have KP16 := Lib.hid (KP14.out.after hbc)
      clear hbc HP14 HA14 HB14 KP14 hb
      obtain ⟨eKP0, eKP1, eKP2⟩ := KP16.out.cells3
      have lKP := KP16.out.lt
      go_wp2_with fail
      clear eKP0 eKP1 eKP2 lKP
      obtain ⟨i, b, hq⟩ : ∃ i b, find14 p seq = (i, b) := ⟨_, _, rfl⟩
      have HQ := Lib.hid hq
      clear hq
      refine (find_any C S L A cC cS cL c p seq _ HP16.out ⟨by omega, by omega, by omega⟩ HA16.out (Nat.le_trans lc lm) i b HQ.out).mono ?_
      rintro e w17 ⟨rfl, hb⟩
      have hbc := hb
      have HP18 := Lib.hid ((HP16.out.below hbc).lt)
      have HA18 := Lib.hid ((HA16.out.below hbc).lt)
      have HB18 := Lib.hid (below_then HB16.out hbc (Nat.le_refl _))
      have KP18 := Lib.hid (KP16.out.after hbc)
      clear hbc HP16 HA16 HB16 KP16 hb
      obtain ⟨eKP0, eKP1, eKP2⟩ := KP18.out.cells3
      have lKP := KP18.out.lt
      go_wp2_with fail
      clear eKP0 eKP1 eKP2 lKP
      refine (find2_any C S L A cC cS cL c p seq _ HP18.out ⟨by omega, by omega, by omega⟩ HA18.out (Nat.le_trans lc lm) i b HQ.out).mono ?_
      rintro e w19 ⟨rfl, hb⟩
      have hbc := hb
      have HP20 := Lib.hid ((HP18.out.below hbc).lt)
      have HA20 := Lib.hid ((HA18.out.below hbc).lt)
      have HB20 := Lib.hid (below_then HB18.out hbc (Nat.le_refl _))
      have KP20 := Lib.hid (KP18.out.after hbc)
      clear hbc HP18 HA18 HB18 KP18 hb
      go_wp2_with fail
      refine (alive_any _).mono ?_
      rintro e w21 ⟨rfl, hb⟩
      have hbc := hb
      have HP22 := Lib.hid ((HP20.out.below hbc).lt)
      have HA22 := Lib.hid ((HA20.out.below hbc).lt)
      have HB22 := Lib.hid (below_then HB20.out hbc (Nat.le_refl _))
      have KP22 := Lib.hid (KP20.out.after hbc)
      clear hbc HP20 HA20 HB20 KP20 hb
      go_wp2
      go_ret
      exact ⟨rfl, HB22.out⟩
theorem own : ownKnob Try.prog.godebug = none := by kernel_rfl
theorem laidOut : laidOutB Try.prog = true := by kernel_rfl
set_option maxRecDepth 100000 in
theorem lifted (os : Os) (started : os.Started) (H : Type) (enc : TypeId × Value → H) :
    ReturnsInHanded {} Try.checked os 5 .any (Rows.seqpoolFindsSpec.pre6 enc Try.prog Try.f5 Rows.seqpoolFindsRow.domain false) (Rows.seqpoolFindsSpec.post enc Try.prog Try.f5 false true false false) := by
  refine returnsInHanded_of_change (C := Try.checked) own started (by kernel_rfl) Try.func5
    (ChangeSpec.witness6 (enc := enc) (C := Try.checked) false ⟨#[], #[.agg #[.slice none 0 0, .slice none 0 0, .slice none 0 0], .slice none 0 0], []⟩ 8 (by kernel_rfl) (by kernel_rfl) (by kernel_rfl) (by kernel_rfl)) ?_
  intro W base args ds gs before hval0 hW hcnd _
  have hval : ∀ (j : Nat) t v, Try.f5.params[j]? = some t → args[j]? = some v → Value.okWide Try.prog W .any base t v := hval0
  have hW' := hW
  obtain ⟨p, q, hA0, hV, rfl, hfz, hnd⟩ := hW
  have hA : DataW.TrodAll enc Try.prog W 0 (fun _ => true) true Try.f5.params.toList args.toList ds p := hA0
  rw [Try.params5] at hA hval
  obtain ⟨v0, v1, d0, d1, p0, p1, rfl, rfl, rfl, h0, h1⟩ := trodAll_two hA
  obtain ⟨rfl, rfl⟩ := trodVars_none hV
  obtain ⟨a00, a01, a02, y00, y01, y02, n0, rfl, rfl, rfl, g00, g01, g02⟩ := open_agg3 Try.underlying27 (by kernel_rfl) (by kernel_rfl) (hval 0 27 v0 rfl rfl) h0
  obtain ⟨A00, c00, x00, rfl, hc00, hm00, hR00, -⟩ := open_row Try.underlying25 Try.underlying3 (by kernel_rfl) g00
  obtain ⟨A01, c01, x01, rfl, hc01, hm01, hR01, -⟩ := open_row Try.underlying25 Try.underlying3 (by kernel_rfl) g01
  obtain ⟨A02, c02, x02, rfl, hc02, hm02, hR02, -⟩ := open_row Try.underlying25 Try.underlying3 (by kernel_rfl) g02
  obtain ⟨ad1, le1, ca1, rfl⟩ := okWide_slice Try.underlying25 (hval 1 25 v1 rfl rfl)
  obtain ⟨fu1, hf1⟩ := h1
  obtain ⟨A1, c1, xs1, hv1, hc1, hm1, hR1, -⟩ := open_row (v := .slice ad1 le1 ca1) Try.underlying25 Try.underlying3 (by kernel_rfl) hf1
  injection hv1 with ea1 eb1 ec1
  subst ea1 eb1 ec1
  refine (walk W A00 c00 A01 c01 A02 c02 ⟨x00, x01, x02⟩ ⟨hc00, hm00, hR00, hc01, hm01, hR01, hc02, hm02, hR02⟩ ad1 ca1 xs1 hc1 hm1 hR1).mono fun e W' ⟨he, hb⟩ => ⟨_, he, ?_⟩
  exact law_post laidOut (by rw [Try.params5]; exact of_decide_eq_true (by kernel_rfl)) rfl rfl Try.underlying4 hW' rfl hb
theorem holds : Rows.SeqpoolFindsSaid :=
  OpenClaim.holds_of_wide 5 Try.f5 rfl rfl rfl rfl rfl rfl rfl ⟨rfl, rfl, rfl, rfl, rfl⟩ rfl rfl rfl rfl rfl (by kernel_rfl) Try.func5 (by kernel_rfl)
    (of_decide_eq_true (by kernel_rfl)) (by unfold Func.isWrapper; first | (rw [if_pos (by decide +kernel)]; kernel_rfl) | (rw [if_neg (by decide +kernel)]; exact ⟨rfl, rfl⟩))
    (fun os started H enc _ => lifted os started H enc)
end Go.Proofs.Yteobffcnfigilaa.LFinds
namespace Go.Proofs.Yteobffcnfigilaa
theorem seqpoolFinds_holds : Rows.SeqpoolFindsSaid := LFinds.holds
end Go.Proofs.Yteobffcnfigilaa
