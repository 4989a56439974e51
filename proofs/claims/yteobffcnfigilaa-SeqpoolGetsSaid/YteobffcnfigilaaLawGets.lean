/-
  SeqpoolGets: for every input the law returns true, and its arguments read as before. No condition.
-/
import Derived.Test.YteobffcnfigilaaRows
import Derived.Test.YteobffcnfigilaaLift
import Derived.Test.YteobffcnfigilaaLst
import Derived.Test.YteobffcnfigilaaSp10
import Derived.Test.YteobffcnfigilaaTree
import Derived.Deep.DeepCutAuto
import Derived.Deep.CutBlock
namespace Go.Proofs.Yteobffcnfigilaa.LGets
open Go.ChangeShapes Go.WideShapes Go.ChangeAt Go.RowKit Go.UtYteobffcnfigilaa Go.Joins
attribute [local go_sem high] cut_l cut_lh cut_lhm cutA_zero
attribute [local go_sem 500] cut_any
set_option maxRecDepth 100000 in
set_option maxHeartbeats 4000000 in
theorem walk (w : World) (C : Option Addr) (cC : Nat) (S : Option Addr) (cS : Nat) (L : Option Addr) (cL : Nat) (p : Pl) (hp : PlAt w w.heap.size C cC S cS L cL p) (i : Int) (_hi : -9223372036854775808 ≤ i ∧ i ≤ 9223372036854775807) :
    Calls Try.prog 8 #[.agg #[.slice C p.C.length cC, .slice S p.S.length cS, .slice L p.L.length cL], .int .i64 i] w fun e w' => e = .returned (.bool true) ∧ Below w.heap.size w w' := by
  have HP0 := Lib.hid hp
  clear hp
  have HB0 := Lib.hid (Below.refl w.heap.size w)
  obtain ⟨bHD, hd⟩ : ∃ b, decide (p.C.length ≤ 200 ∧ p.S.length ≤ 40 ∧ p.L.length ≤ 40) = b := ⟨_, rfl⟩
  have HD := Lib.hid hd
  cases bHD with
  | false =>
    clear hd
    go_enter Try.func8, Try.ntmps8
    go_wp2_with fail
    obtain ⟨n1, hv, hbb, hk0⟩ : ∃ v, v = (w.alloc (.cells #[.slice C p.C.length cC, .slice S p.S.length cS, .slice L p.L.length cL] 27)) ∧ Below w.heap.size w v ∧ Blk v (w.heap.size) 27 #[.slice C p.C.length cC, .slice S p.S.length cS, .slice L p.L.length cL] :=
      ⟨_, rfl, (Below.refl _ _).alloc (Nat.le_refl _) _, Blk.at_new (by simp; try omega)⟩
    rw [← hv]
    clear hv
    have hbc := hbb
    have HP2 := Lib.hid ((HP0.out.below hbc).lt)
    have HB2 := Lib.hid (below_then HB0.out hbc (Nat.le_refl _))
    have KP2 := Lib.hid (hk0)
    clear hbc HP0 HB0 hbb hk0
    refine (small_any C S L _ _ _ cC cS cL _ _ HD.out).mono ?_
    rintro e w3 ⟨rfl, hb⟩
    have hbc := hb
    have HP4 := Lib.hid ((HP2.out.below hbc).lt)
    have HB4 := Lib.hid (below_then HB2.out hbc (Nat.le_refl _))
    have KP4 := Lib.hid (KP2.out.after hbc)
    clear hbc HP2 HB2 KP2 hb
    go_wp2_with fail
    refine (alive_any _).mono ?_
    rintro e w5 ⟨rfl, hb⟩
    have hbc := hb
    have HP6 := Lib.hid ((HP4.out.below hbc).lt)
    have HB6 := Lib.hid (below_then HB4.out hbc (Nat.le_refl _))
    have KP6 := Lib.hid (KP4.out.after hbc)
    clear hbc HP4 HB4 KP4 hb
    go_wp2
    go_ret
    exact ⟨rfl, HB6.out⟩
  | true =>
    obtain ⟨f1, f2, f3⟩ := of_decide_eq_true hd
    clear hd
    go_enter Try.func8, Try.ntmps8
    go_wp2_with fail
    obtain ⟨n7, hv, hbb, hk0⟩ : ∃ v, v = (w.alloc (.cells #[.slice C p.C.length cC, .slice S p.S.length cS, .slice L p.L.length cL] 27)) ∧ Below w.heap.size w v ∧ Blk v (w.heap.size) 27 #[.slice C p.C.length cC, .slice S p.S.length cS, .slice L p.L.length cL] :=
      ⟨_, rfl, (Below.refl _ _).alloc (Nat.le_refl _) _, Blk.at_new (by simp; try omega)⟩
    rw [← hv]
    clear hv
    have hbc := hbb
    have HP8 := Lib.hid ((HP0.out.below hbc).lt)
    have HB8 := Lib.hid (below_then HB0.out hbc (Nat.le_refl _))
    have KP8 := Lib.hid (hk0)
    clear hbc HP0 HB0 hbb hk0
    refine (small_any C S L _ _ _ cC cS cL _ _ HD.out).mono ?_
    rintro e w9 ⟨rfl, hb⟩
    have hbc := hb
    have HP10 := Lib.hid ((HP8.out.below hbc).lt)
    have HB10 := Lib.hid (below_then HB8.out hbc (Nat.le_refl _))
    have KP10 := Lib.hid (KP8.out.after hbc)
    clear hbc HP8 HB8 KP8 hb
    obtain ⟨eKP0, eKP1, eKP2⟩ := KP10.out.cells3
    have lKP := KP10.out.lt
    go_wp2_with fail
    clear eKP0 eKP1 eKP2 lKP
    obtain ⟨xs, b, hq⟩ : ∃ xs b, get14 p i = (xs, b) := ⟨_, _, rfl⟩
    have HQ := Lib.hid hq
    clear hq
    refine (get_any C S L cC cS cL p i _ HP10.out ⟨by omega, by omega, by omega⟩ xs b HQ.out).mono ?_
    rintro e w11 ⟨A1, c1, rfl, x1, x2, hr, hb⟩
    have hbc := hb
    have HP12 := Lib.hid ((HP10.out.below hbc).lt)
    have HB12 := Lib.hid (below_then HB10.out hbc (Nat.le_refl _))
    have KP12 := Lib.hid (KP10.out.after hbc)
    have R112 := Lib.hid (hr)
    clear hbc HP10 HB10 KP10 hb
    clear hr
    obtain ⟨eKP0, eKP1, eKP2⟩ := KP12.out.cells3
    have lKP := KP12.out.lt
    go_wp2_with fail
    clear eKP0 eKP1 eKP2 lKP
    refine (get2_any C S L cC cS cL p i _ HP12.out ⟨by omega, by omega, by omega⟩ xs b HQ.out).mono ?_
    rintro e w13 ⟨B1, b1, rfl, x3, x4, hr, hb⟩
    have hbc := hb
    have HP14 := Lib.hid ((HP12.out.below hbc).lt)
    have HB14 := Lib.hid (below_then HB12.out hbc (Nat.le_refl _))
    have KP14 := Lib.hid (KP12.out.after hbc)
    have R114 := Lib.hid ((R112.out.below hbc).lt)
    have R214 := Lib.hid (hr)
    clear hbc HP12 HB12 KP12 R112 hb
    clear hr
    obtain ⟨v, hv⟩ : ∃ v, vld14 p = v := ⟨_, rfl⟩
    have HV := Lib.hid hv
    clear hv
    go_wp2_with fail
    refine wp_region_tree (fun w' => Below w.heap.size w w' ∧ Blk w' w.heap.size 27 #[.slice C p.C.length cC, .slice S p.S.length cS, .slice L p.L.length cL]) (.float 0 (.float 1 (.one 2 (.float 3 (.float 4 (.float 5 (.float 6 (.float 7 (.float 8 (.float 9 (.float 11 (.one 10 (.one 12 (.float 13 (.float 14 (.float 15 (.one 16 (.float 17 (.float 18 .done))))))))))))))))))) (by kernel_rfl) (by kernel_rfl) (fun _ _ d _ _ h => by cases d <;> exact h) ⟨HB14.out.drew, KP14.out.drew⟩ ?_
    obtain ⟨d15, hdr, hbd⟩ : ∃ d, d = w13.drew ∧ Below w13.heap.size w13 d := ⟨_, rfl, (Below.refl _ _).drew⟩
    rw [← hdr]
    clear hdr
    have hbc := hbd
    have HP16 := Lib.hid ((HP14.out.below hbc).lt)
    have HB16 := Lib.hid (below_then HB14.out hbc (Nat.le_refl _))
    have KP16 := Lib.hid (KP14.out.after hbc)
    have R116 := Lib.hid ((R114.out.below hbc).lt)
    have R216 := Lib.hid ((R214.out.below hbc).lt)
    clear hbc HP14 HB14 KP14 R114 R214 hbd
    repeat (first
      | (refine wpTr_fskip (by simp only [List.getElem?_toArray, List.getElem?_cons_zero, List.getElem?_cons_succ]; rfl) (by rfl) ?_
         simp only [Act.put, List.setIfInBounds_toArray, List.set_cons_zero, List.set_cons_succ])
      | (refine wpTr_float (v := ?_) (by simp only [List.getElem?_toArray, List.getElem?_cons_zero, List.getElem?_cons_succ]; rfl) (by rfl) (fun w' hS => ?_) ?_
         rotate_left
         (obtain ⟨hSb, hSk⟩ := hS; obtain ⟨e0, e1, e2⟩ := hSk.cells3; have hls := hSk.lt; go_simp; first | done | rfl)
         simp only [Act.put, List.setIfInBounds_toArray, List.set_cons_zero, List.set_cons_succ]))
    refine wpTr_one ?_
    refine stepTr_K (by simp only [List.getElem?_toArray, List.getElem?_cons_zero, List.getElem?_cons_succ]; rfl) (by rfl) (fun K hK => ?_)
    go_simp
    refine (requal_q A1 B1 _ _ c1 b1 xs xs _ R116.out R216.out rfl rfl (Nat.le_trans x1 x2) (Nat.le_trans x1 x2) true (by simp)).mono ?_
    rintro e w17 ⟨rfl, hb⟩
    have hbc := hb
    have HP18 := Lib.hid ((HP16.out.below hbc).lt)
    have HB18 := Lib.hid (below_then HB16.out hbc (Nat.le_refl _))
    have KP18 := Lib.hid (KP16.out.after hbc)
    have R118 := Lib.hid ((R116.out.below hbc).lt)
    have R218 := Lib.hid ((R216.out.below hbc).lt)
    clear hbc HP16 HB16 KP16 R116 R216 hb
    refine hK.out _ _ ⟨HB18.out, KP18.out⟩ ?_
    clear hK K
    try simp only [Act.put, List.setIfInBounds_toArray, List.set_cons_zero, List.set_cons_succ]
    repeat (first
      | (refine wpTr_fskip (by simp only [List.getElem?_toArray, List.getElem?_cons_zero, List.getElem?_cons_succ]; rfl) (by rfl) ?_
         simp only [Act.put, List.setIfInBounds_toArray, List.set_cons_zero, List.set_cons_succ])
      | (refine wpTr_float (v := ?_) (by simp only [List.getElem?_toArray, List.getElem?_cons_zero, List.getElem?_cons_succ]; rfl) (by rfl) (fun w' hS => ?_) ?_
         rotate_left
         (obtain ⟨hSb, hSk⟩ := hS; obtain ⟨e0, e1, e2⟩ := hSk.cells3; have hls := hSk.lt; go_simp; first | done | rfl)
         simp only [Act.put, List.setIfInBounds_toArray, List.set_cons_zero, List.set_cons_succ]))
    refine wpTr_one ?_
    refine stepTr_K (by simp only [List.getElem?_toArray, List.getElem?_cons_zero, List.getElem?_cons_succ]; rfl) (by rfl) (fun K hK => ?_)
    go_simp
    refine (vld_calls C S L cC cS cL p _ HP18.out ⟨by omega, by omega, by omega⟩ _ HV.out).mono ?_
    rintro e w19 ⟨rfl, hb⟩
    have hbc := hb
    have HP20 := Lib.hid ((HP18.out.below hbc).lt)
    have HB20 := Lib.hid (below_then HB18.out hbc (Nat.le_refl _))
    have KP20 := Lib.hid (KP18.out.after hbc)
    have R120 := Lib.hid ((R118.out.below hbc).lt)
    have R220 := Lib.hid ((R218.out.below hbc).lt)
    clear hbc HP18 HB18 KP18 R118 R218 hb
    refine hK.out _ _ ⟨HB20.out, KP20.out⟩ ?_
    clear hK K
    try simp only [Act.put, List.setIfInBounds_toArray, List.set_cons_zero, List.set_cons_succ]
    refine wpTr_one ?_
    refine stepTr_K (by simp only [List.getElem?_toArray, List.getElem?_cons_zero, List.getElem?_cons_succ]; rfl) (by rfl) (fun K hK => ?_)
    go_simp
    refine (vld_calls2 C S L cC cS cL p _ HP20.out ⟨by omega, by omega, by omega⟩ _ HV.out).mono ?_
    rintro e w21 ⟨rfl, hb⟩
    have hbc := hb
    have HP22 := Lib.hid ((HP20.out.below hbc).lt)
    have HB22 := Lib.hid (below_then HB20.out hbc (Nat.le_refl _))
    have KP22 := Lib.hid (KP20.out.after hbc)
    have R122 := Lib.hid ((R120.out.below hbc).lt)
    have R222 := Lib.hid ((R220.out.below hbc).lt)
    clear hbc HP20 HB20 KP20 R120 R220 hb
    refine hK.out _ _ ⟨HB22.out, KP22.out⟩ ?_
    clear hK K
    try simp only [Act.put, List.setIfInBounds_toArray, List.set_cons_zero, List.set_cons_succ]
    repeat (first
      | (refine wpTr_fskip (by simp only [List.getElem?_toArray, List.getElem?_cons_zero, List.getElem?_cons_succ]; rfl) (by rfl) ?_
         simp only [Act.put, List.setIfInBounds_toArray, List.set_cons_zero, List.set_cons_succ])
      | (refine wpTr_float (v := ?_) (by simp only [List.getElem?_toArray, List.getElem?_cons_zero, List.getElem?_cons_succ]; rfl) (by rfl) (fun w' hS => ?_) ?_
         rotate_left
         (obtain ⟨hSb, hSk⟩ := hS; obtain ⟨e0, e1, e2⟩ := hSk.cells3; have hls := hSk.lt; go_simp; first | done | rfl)
         simp only [Act.put, List.setIfInBounds_toArray, List.set_cons_zero, List.set_cons_succ]))
    refine wpTr_one ?_
    refine stepTr_K (by simp only [List.getElem?_toArray, List.getElem?_cons_zero, List.getElem?_cons_succ]; rfl) (by rfl) (fun K hK => ?_)
    go_simp
    refine (alive_any _).mono ?_
    rintro e w23 ⟨rfl, hb⟩
    have hbc := hb
    have HP24 := Lib.hid ((HP22.out.below hbc).lt)
    have HB24 := Lib.hid (below_then HB22.out hbc (Nat.le_refl _))
    have KP24 := Lib.hid (KP22.out.after hbc)
    have R124 := Lib.hid ((R122.out.below hbc).lt)
    have R224 := Lib.hid ((R222.out.below hbc).lt)
    clear hbc HP22 HB22 KP22 R122 R222 hb
    refine hK.out _ _ ⟨HB24.out, KP24.out⟩ ?_
    clear hK K
    try simp only [Act.put, List.setIfInBounds_toArray, List.set_cons_zero, List.set_cons_succ]
    repeat (first
      | (refine wpTr_fskip (by simp only [List.getElem?_toArray, List.getElem?_cons_zero, List.getElem?_cons_succ]; rfl) (by rfl) ?_
         simp only [Act.put, List.setIfInBounds_toArray, List.set_cons_zero, List.set_cons_succ])
      | (refine wpTr_float (v := ?_) (by simp only [List.getElem?_toArray, List.getElem?_cons_zero, List.getElem?_cons_succ]; rfl) (by rfl) (fun w' hS => ?_) ?_
         rotate_left
         (obtain ⟨hSb, hSk⟩ := hS; obtain ⟨e0, e1, e2⟩ := hSk.cells3; have hls := hSk.lt; go_simp; first | done | rfl)
         simp only [Act.put, List.setIfInBounds_toArray, List.set_cons_zero, List.set_cons_succ]))
    refine wpTr_done ?_
    go_wp2
    go_ret
    exact ⟨rfl, HB24.out⟩
theorem own : ownKnob Try.prog.godebug = none := by kernel_rfl
theorem laidOut : laidOutB Try.prog = true := by kernel_rfl
set_option maxRecDepth 100000 in
theorem lifted (os : Os) (started : os.Started) (H : Type) (enc : TypeId × Value → H) :
    ReturnsInHanded {} Try.checked os 8 .any (Rows.seqpoolGetsSpec.pre6 enc Try.prog Try.f8 Rows.seqpoolGetsRow.domain false) (Rows.seqpoolGetsSpec.post enc Try.prog Try.f8 false true false false) := by
  refine returnsInHanded_of_change (C := Try.checked) own started (by kernel_rfl) Try.func8
    (ChangeSpec.witness6 (enc := enc) (C := Try.checked) false ⟨#[], #[.agg #[.slice none 0 0, .slice none 0 0, .slice none 0 0], .int .i64 0], []⟩ 8 (by kernel_rfl) (by kernel_rfl) (by kernel_rfl) (by kernel_rfl)) ?_
  intro W base args ds gs before hval0 hW hcnd _
  have hval : ∀ (j : Nat) t v, Try.f8.params[j]? = some t → args[j]? = some v → Value.okWide Try.prog W .any base t v := hval0
  have hW' := hW
  obtain ⟨p, q, hA0, hV, rfl, hfz, hnd⟩ := hW
  have hA : DataW.TrodAll enc Try.prog W 0 (fun _ => true) true Try.f8.params.toList args.toList ds p := hA0
  rw [Try.params8] at hA hval
  obtain ⟨v0, v1, d0, d1, p0, p1, rfl, rfl, rfl, h0, h1⟩ := trodAll_two hA
  obtain ⟨rfl, rfl⟩ := trodVars_none hV
  obtain ⟨a00, a01, a02, y00, y01, y02, n0, rfl, rfl, rfl, g00, g01, g02⟩ := open_agg3 Try.underlying27 (by kernel_rfl) (by kernel_rfl) (hval 0 27 v0 rfl rfl) h0
  obtain ⟨A00, c00, x00, rfl, hc00, hm00, hR00, -⟩ := open_row Try.underlying25 Try.underlying3 (by kernel_rfl) g00
  obtain ⟨A01, c01, x01, rfl, hc01, hm01, hR01, -⟩ := open_row Try.underlying25 Try.underlying3 (by kernel_rfl) g01
  obtain ⟨A02, c02, x02, rfl, hc02, hm02, hR02, -⟩ := open_row Try.underlying25 Try.underlying3 (by kernel_rfl) g02
  obtain ⟨s1, rfl, rfl, rfl, ws1⟩ := open_int Try.underlying3 (hval 1 3 v1 rfl rfl) h1
  refine (walk W A00 c00 A01 c01 A02 c02 ⟨x00, x01, x02⟩ ⟨hc00, hm00, hR00, hc01, hm01, hR01, hc02, hm02, hR02⟩ s1 (wf_i64 ws1)).mono fun e W' ⟨he, hb⟩ => ⟨_, he, ?_⟩
  exact law_post laidOut (by rw [Try.params8]; exact of_decide_eq_true (by kernel_rfl)) rfl rfl Try.underlying4 hW' rfl hb
theorem holds : Rows.SeqpoolGetsSaid :=
  OpenClaim.holds_of_wide 8 Try.f8 rfl rfl rfl rfl rfl rfl rfl ⟨rfl, rfl, rfl, rfl, rfl⟩ rfl rfl rfl rfl rfl (by kernel_rfl) Try.func8 (by kernel_rfl)
    (of_decide_eq_true (by kernel_rfl)) (by unfold Func.isWrapper; first | (rw [if_pos (by decide +kernel)]; kernel_rfl) | (rw [if_neg (by decide +kernel)]; exact ⟨rfl, rfl⟩))
    (fun os started H enc _ => lifted os started H enc)
end Go.Proofs.Yteobffcnfigilaa.LGets
namespace Go.Proofs.Yteobffcnfigilaa
theorem seqpoolGets_holds : Rows.SeqpoolGetsSaid := LGets.holds
end Go.Proofs.Yteobffcnfigilaa
