/-
  CpsetHas: the walk of the law: it returns true, nothing older changes.
-/
import Derived.Test.YtogfhaeohcpkjaaDoorCsL
import Derived.Test.YtogfhaeohcpkjaaDoorTree
import Derived.Deep.QuietTactic
import Derived.BigQuiet
import Derived.IntWalk
import Derived.Outline
import Derived.Test.YtogfhaeohcpkjaaDoorCr3
namespace Go.Proofs.YtogfhaeohcpkjaaDoor.LHas
open Go.ChangeShapes Go.WideShapes Go.ChangeAt Go.RowKit Go.UtYtogfhaeohcpkjaaDoor Go.Joins
set_option maxRecDepth 100000 in
set_option maxHeartbeats 4000000 in
theorem walk (w : World) (hd : Digs w) (hm : MaxL w) (A0 : Option Addr) (c0 : Nat) (l0 : List Rg) (_lc0 : l0.length ≤ c0) (_lm0 : c0 ≤ maxLen) (hR0 : Row w w.heap.size A0 (rgs l0)) (s1 : Int) (_hs1 : -9223372036854775808 ≤ s1 ∧ s1 ≤ 9223372036854775807) :
    Calls Tryd.prog 7 #[.agg #[.slice A0 l0.length c0], .int .i64 s1] w fun e w' => e = .returned (.bool true) ∧ Below w.heap.size w w' := by
  have HD := Lib.hid hd
  have HM := Lib.hid hm
  clear hd hm
  have HB0 := Lib.hid (Below.refl w.heap.size w)
  have HR0_0 := Lib.hid hR0
  clear hR0
  obtain ⟨bS, hS⟩ : ∃ b, decide ((l0.length : Int) ≤ 12) = b := ⟨_, rfl⟩
  have HS := Lib.hid hS
  cases bS with
  | false =>
    clear hS
    go_enter Tryd.func7, Tryd.ntmps7
    go_wp2_with fail
    obtain ⟨n1, hv, hbb, hk0⟩ : ∃ v, v = (w.alloc (.cells #[.slice A0 l0.length c0] 24)) ∧ Below w.heap.size w v ∧ Blk v (w.heap.size) 24 #[.slice A0 l0.length c0] :=
      ⟨_, rfl, (Below.refl _ _).alloc (Nat.le_refl _) _, Blk.at_new (by simp; try omega)⟩
    rw [← hv]
    clear hv
    obtain ⟨b0, ha⟩ : ∃ a, a = w.heap.size := ⟨_, rfl⟩
    rw [← ha] at hk0 ⊢
    clear ha
    have hbc := hbb
    have HB2 := Lib.hid (below_then HB0.out hbc (Nat.le_refl _))
    have HR0_2 := Lib.hid ((HR0_0.out.below hbc).lt)
    have K0_2 := Lib.hid (hk0)
    clear hbc HB0 HR0_0 hbb hk0
    refine (small_any A0 _ c0 _ _ HS.out).mono ?_
    rintro e w3 ⟨rfl, hb⟩
    have hbc := hb
    have HB4 := Lib.hid (below_then HB2.out hbc (Nat.le_refl _))
    have HR0_4 := Lib.hid ((HR0_2.out.below hbc).lt)
    have K0_4 := Lib.hid (K0_2.out.after hbc)
    clear hbc HB2 HR0_2 K0_2 hb
    go_wp2_with fail
    refine (alive_any _ (HD.out.below HB4.out) (HM.out.below HB4.out)).mono ?_
    rintro e w5 ⟨rfl, hb⟩
    have hbc := hb
    have HB6 := Lib.hid (below_then HB4.out hbc (Nat.le_refl _))
    have HR0_6 := Lib.hid ((HR0_4.out.below hbc).lt)
    have K0_6 := Lib.hid (K0_4.out.after hbc)
    clear hbc HB4 HR0_4 K0_4 hb
    go_wp2
    go_ret
    exact ⟨rfl, HB6.out⟩
  | true =>
    have hs0 : l0.length ≤ 12 := by simp at hS; omega
    clear hS
    by_cases hvv : hasP l0 s1
    · have Hvv := Lib.hid hvv
      clear hvv
      have HX : Hid (decide (hasP l0 s1) = true) := by show _ = _; simp [Hvv.out]
      go_enter Tryd.func7, Tryd.ntmps7
      go_wp2_with fail
      obtain ⟨n7, hv, hbb, hk0⟩ : ∃ v, v = (w.alloc (.cells #[.slice A0 l0.length c0] 24)) ∧ Below w.heap.size w v ∧ Blk v (w.heap.size) 24 #[.slice A0 l0.length c0] :=
        ⟨_, rfl, (Below.refl _ _).alloc (Nat.le_refl _) _, Blk.at_new (by simp; try omega)⟩
      rw [← hv]
      clear hv
      obtain ⟨b0, ha⟩ : ∃ a, a = w.heap.size := ⟨_, rfl⟩
      rw [← ha] at hk0 ⊢
      clear ha
      have hbc := hbb
      have HB8 := Lib.hid (below_then HB0.out hbc (Nat.le_refl _))
      have HR0_8 := Lib.hid ((HR0_0.out.below hbc).lt)
      have K0_8 := Lib.hid (hk0)
      clear hbc HB0 HR0_0 hbb hk0
      refine (small_any A0 _ c0 _ _ HS.out).mono ?_
      rintro e w9 ⟨rfl, hb⟩
      have hbc := hb
      have HB10 := Lib.hid (below_then HB8.out hbc (Nat.le_refl _))
      have HR0_10 := Lib.hid ((HR0_8.out.below hbc).lt)
      have K0_10 := Lib.hid (K0_8.out.after hbc)
      clear hbc HB8 HR0_8 K0_8 hb
      go_wp2_with fail
      refine wp_region_tree (fun w' => Below w.heap.size w w' ∧ Blk w' b0 24 #[.slice A0 l0.length c0]) (.float 0 (.float 1 (.float 3 (.float 4 (.one 2 (.one 5 (.float 6 (.float 7 (.float 8 (.float 9 (.float 11 (.float 13 (.float 14 (.one 10 (.one 12 (.one 15 (.float 16 (.float 17 (.float 18 (.one 19 (.float 20 (.float 21 .done)))))))))))))))))))))) (by kernel_rfl) (by kernel_rfl) (fun _ _ d _ _ h => by cases d <;> exact h) ⟨HB10.out.drew, K0_10.out.drew⟩ ?_
      obtain ⟨d11, hdr, hbd⟩ : ∃ d, d = w9.drew ∧ Below w9.heap.size w9 d := ⟨_, rfl, (Below.refl _ _).drew⟩
      rw [← hdr]
      clear hdr
      have hbc := hbd
      have HB12 := Lib.hid (below_then HB10.out hbc (Nat.le_refl _))
      have HR0_12 := Lib.hid ((HR0_10.out.below hbc).lt)
      have K0_12 := Lib.hid (K0_10.out.after hbc)
      clear hbc HB10 HR0_10 K0_10 hbd
      repeat (first
        | (refine wpTr_fskip (by simp only [List.getElem?_toArray, List.getElem?_cons_zero, List.getElem?_cons_succ]; rfl) (by rfl) ?_
           simp only [Act.put, List.setIfInBounds_toArray, List.set_cons_zero, List.set_cons_succ])
        | (refine wpTr_float (v := ?_) (by simp only [List.getElem?_toArray, List.getElem?_cons_zero, List.getElem?_cons_succ]; rfl) (by rfl) (fun w' hS => ?_) ?_
           rotate_left
           (obtain ⟨hSb, hSb0⟩ := hS; have eSb0 := hSb0.cell 0; have lSb0 := hSb0.lt; simp at eSb0; go_simp; first | done | rfl)
           simp only [Act.put, List.setIfInBounds_toArray, List.set_cons_zero, List.set_cons_succ]))
      refine wpTr_one ?_
      refine stepTr_K (by simp only [List.getElem?_toArray, List.getElem?_cons_zero, List.getElem?_cons_succ]; rfl) (by rfl) (fun K hK => ?_)
      go_simp
      refine (has_any A0 c0 l0 s1 _ HR0_12.out (by simp only [maxLen]; omega) _ HX.out).mono ?_
      rintro e w13 ⟨rfl, hb⟩
      have hbc := hb
      have HB14 := Lib.hid (below_then HB12.out hbc (Nat.le_refl _))
      have HR0_14 := Lib.hid ((HR0_12.out.below hbc).lt)
      have K0_14 := Lib.hid (K0_12.out.after hbc)
      clear hbc HB12 HR0_12 K0_12 hb
      refine hK.out _ _ ⟨HB14.out, K0_14.out⟩ ?_
      clear hK K
      try simp only [Act.put, List.setIfInBounds_toArray, List.set_cons_zero, List.set_cons_succ]
      refine wpTr_one ?_
      refine stepTr_K (by simp only [List.getElem?_toArray, List.getElem?_cons_zero, List.getElem?_cons_succ]; rfl) (by rfl) (fun K hK => ?_)
      go_simp
      refine (has2_any A0 c0 l0 s1 _ HR0_14.out (by simp only [maxLen]; omega) _ HX.out).mono ?_
      rintro e w15 ⟨rfl, hb⟩
      have hbc := hb
      have HB16 := Lib.hid (below_then HB14.out hbc (Nat.le_refl _))
      have HR0_16 := Lib.hid ((HR0_14.out.below hbc).lt)
      have K0_16 := Lib.hid (K0_14.out.after hbc)
      clear hbc HB14 HR0_14 K0_14 hb
      refine hK.out _ _ ⟨HB16.out, K0_16.out⟩ ?_
      clear hK K
      try simp only [Act.put, List.setIfInBounds_toArray, List.set_cons_zero, List.set_cons_succ]
      repeat (first
        | (refine wpTr_fskip (by simp only [List.getElem?_toArray, List.getElem?_cons_zero, List.getElem?_cons_succ]; rfl) (by rfl) ?_
           simp only [Act.put, List.setIfInBounds_toArray, List.set_cons_zero, List.set_cons_succ])
        | (refine wpTr_float (v := ?_) (by simp only [List.getElem?_toArray, List.getElem?_cons_zero, List.getElem?_cons_succ]; rfl) (by rfl) (fun w' hS => ?_) ?_
           rotate_left
           (obtain ⟨hSb, hSb0⟩ := hS; have eSb0 := hSb0.cell 0; have lSb0 := hSb0.lt; simp at eSb0; go_simp; first | done | rfl)
           simp only [Act.put, List.setIfInBounds_toArray, List.set_cons_zero, List.set_cons_succ]))
      refine wpTr_one ?_
      refine stepTr_K (by simp only [List.getElem?_toArray, List.getElem?_cons_zero, List.getElem?_cons_succ]; rfl) (by rfl) (fun K hK => ?_)
      go_simp
      refine (make_any A0 c0 l0 _ HR0_16.out (by omega)).mono ?_
      rintro e w17 ⟨Am, cm, rm, rfl, hc, hh, hr, hb⟩
      have hbc := hb
      have HB18 := Lib.hid (below_then HB16.out hbc (Nat.le_refl _))
      have HR0_18 := Lib.hid ((HR0_16.out.below hbc).lt)
      have K0_18 := Lib.hid (K0_16.out.after hbc)
      have Rm_18 := Lib.hid (hr)
      clear hbc HB16 HR0_16 K0_16 hb hr
      have Cm := Lib.hid hc
      have Mm := Lib.hid hh
      clear hc hh
      refine hK.out _ _ ⟨HB18.out, K0_18.out⟩ ?_
      clear hK K
      try simp only [Act.put, List.setIfInBounds_toArray, List.set_cons_zero, List.set_cons_succ]
      refine wpTr_one ?_
      refine stepTr_K (by simp only [List.getElem?_toArray, List.getElem?_cons_zero, List.getElem?_cons_succ]; rfl) (by rfl) (fun K hK => ?_)
      go_simp
      have VM : Hid (decide (hasP rm s1) = true) := by show _ = _; rw [← HX.out]; exact decide_eq_decide.2 (Mm.out s1)
      refine (has_any Am cm rm s1 _ Rm_18.out (by have := can_len Cm.out; simp only [maxLen]; omega) _ VM.out).mono ?_
      rintro e w19 ⟨rfl, hb⟩
      have hbc := hb
      have HB20 := Lib.hid (below_then HB18.out hbc (Nat.le_refl _))
      have HR0_20 := Lib.hid ((HR0_18.out.below hbc).lt)
      have K0_20 := Lib.hid (K0_18.out.after hbc)
      have Rm_20 := Lib.hid ((Rm_18.out.below hbc).lt)
      clear hbc HB18 HR0_18 K0_18 Rm_18 hb
      refine hK.out _ _ ⟨HB20.out, K0_20.out⟩ ?_
      clear hK K
      try simp only [Act.put, List.setIfInBounds_toArray, List.set_cons_zero, List.set_cons_succ]
      refine wpTr_one ?_
      refine stepTr_K (by simp only [List.getElem?_toArray, List.getElem?_cons_zero, List.getElem?_cons_succ]; rfl) (by rfl) (fun K hK => ?_)
      go_simp
      refine (has2_any A0 c0 l0 s1 _ HR0_20.out (by simp only [maxLen]; omega) _ HX.out).mono ?_
      rintro e w21 ⟨rfl, hb⟩
      have hbc := hb
      have HB22 := Lib.hid (below_then HB20.out hbc (Nat.le_refl _))
      have HR0_22 := Lib.hid ((HR0_20.out.below hbc).lt)
      have K0_22 := Lib.hid (K0_20.out.after hbc)
      have Rm_22 := Lib.hid ((Rm_20.out.below hbc).lt)
      clear hbc HB20 HR0_20 K0_20 Rm_20 hb
      refine hK.out _ _ ⟨HB22.out, K0_22.out⟩ ?_
      clear hK K
      try simp only [Act.put, List.setIfInBounds_toArray, List.set_cons_zero, List.set_cons_succ]
      repeat (first
        | (refine wpTr_fskip (by simp only [List.getElem?_toArray, List.getElem?_cons_zero, List.getElem?_cons_succ]; rfl) (by rfl) ?_
           simp only [Act.put, List.setIfInBounds_toArray, List.set_cons_zero, List.set_cons_succ])
        | (refine wpTr_float (v := ?_) (by simp only [List.getElem?_toArray, List.getElem?_cons_zero, List.getElem?_cons_succ]; rfl) (by rfl) (fun w' hS => ?_) ?_
           rotate_left
           (obtain ⟨hSb, hSb0⟩ := hS; have eSb0 := hSb0.cell 0; have lSb0 := hSb0.lt; simp at eSb0; go_simp; first | done | rfl)
           simp only [Act.put, List.setIfInBounds_toArray, List.set_cons_zero, List.set_cons_succ]))
      refine wpTr_one ?_
      refine stepTr_K (by simp only [List.getElem?_toArray, List.getElem?_cons_zero, List.getElem?_cons_succ]; rfl) (by rfl) (fun K hK => ?_)
      go_simp
      refine (alive_any _ (HD.out.below HB22.out) (HM.out.below HB22.out)).mono ?_
      rintro e w23 ⟨rfl, hb⟩
      have hbc := hb
      have HB24 := Lib.hid (below_then HB22.out hbc (Nat.le_refl _))
      have HR0_24 := Lib.hid ((HR0_22.out.below hbc).lt)
      have K0_24 := Lib.hid (K0_22.out.after hbc)
      have Rm_24 := Lib.hid ((Rm_22.out.below hbc).lt)
      clear hbc HB22 HR0_22 K0_22 Rm_22 hb
      refine hK.out _ _ ⟨HB24.out, K0_24.out⟩ ?_
      clear hK K
      try simp only [Act.put, List.setIfInBounds_toArray, List.set_cons_zero, List.set_cons_succ]
      repeat (first
        | (refine wpTr_fskip (by simp only [List.getElem?_toArray, List.getElem?_cons_zero, List.getElem?_cons_succ]; rfl) (by rfl) ?_
           simp only [Act.put, List.setIfInBounds_toArray, List.set_cons_zero, List.set_cons_succ])
        | (refine wpTr_float (v := ?_) (by simp only [List.getElem?_toArray, List.getElem?_cons_zero, List.getElem?_cons_succ]; rfl) (by rfl) (fun w' hS => ?_) ?_
           rotate_left
           (obtain ⟨hSb, hSb0⟩ := hS; have eSb0 := hSb0.cell 0; have lSb0 := hSb0.lt; simp at eSb0; go_simp; first | done | rfl)
           simp only [Act.put, List.setIfInBounds_toArray, List.set_cons_zero, List.set_cons_succ]))
      refine wpTr_done ?_
      go_wp2
      go_ret
      exact ⟨rfl, HB24.out⟩
    · have Hvv := Lib.hid hvv
      clear hvv
      have HX : Hid (decide (hasP l0 s1) = false) := by show _ = _; simp [Hvv.out]
      go_enter Tryd.func7, Tryd.ntmps7
      go_wp2_with fail
      obtain ⟨n25, hv, hbb, hk0⟩ : ∃ v, v = (w.alloc (.cells #[.slice A0 l0.length c0] 24)) ∧ Below w.heap.size w v ∧ Blk v (w.heap.size) 24 #[.slice A0 l0.length c0] :=
        ⟨_, rfl, (Below.refl _ _).alloc (Nat.le_refl _) _, Blk.at_new (by simp; try omega)⟩
      rw [← hv]
      clear hv
      obtain ⟨b0, ha⟩ : ∃ a, a = w.heap.size := ⟨_, rfl⟩
      rw [← ha] at hk0 ⊢
      clear ha
      have hbc := hbb
      have HB26 := Lib.hid (below_then HB0.out hbc (Nat.le_refl _))
      have HR0_26 := Lib.hid ((HR0_0.out.below hbc).lt)
      have K0_26 := Lib.hid (hk0)
      clear hbc HB0 HR0_0 hbb hk0
      refine (small_any A0 _ c0 _ _ HS.out).mono ?_
      rintro e w27 ⟨rfl, hb⟩
      have hbc := hb
      have HB28 := Lib.hid (below_then HB26.out hbc (Nat.le_refl _))
      have HR0_28 := Lib.hid ((HR0_26.out.below hbc).lt)
      have K0_28 := Lib.hid (K0_26.out.after hbc)
      clear hbc HB26 HR0_26 K0_26 hb
      go_wp2_with fail
      refine wp_region_tree (fun w' => Below w.heap.size w w' ∧ Blk w' b0 24 #[.slice A0 l0.length c0]) (.float 0 (.float 1 (.float 3 (.float 4 (.one 2 (.one 5 (.float 6 (.float 7 (.float 8 (.float 9 (.float 11 (.float 13 (.float 14 (.one 10 (.one 12 (.one 15 (.float 16 (.float 17 (.float 18 (.one 19 (.float 20 (.float 21 .done)))))))))))))))))))))) (by kernel_rfl) (by kernel_rfl) (fun _ _ d _ _ h => by cases d <;> exact h) ⟨HB28.out.drew, K0_28.out.drew⟩ ?_
      obtain ⟨d29, hdr, hbd⟩ : ∃ d, d = w27.drew ∧ Below w27.heap.size w27 d := ⟨_, rfl, (Below.refl _ _).drew⟩
      rw [← hdr]
      clear hdr
      have hbc := hbd
      have HB30 := Lib.hid (below_then HB28.out hbc (Nat.le_refl _))
      have HR0_30 := Lib.hid ((HR0_28.out.below hbc).lt)
      have K0_30 := Lib.hid (K0_28.out.after hbc)
      clear hbc HB28 HR0_28 K0_28 hbd
      repeat (first
        | (refine wpTr_fskip (by simp only [List.getElem?_toArray, List.getElem?_cons_zero, List.getElem?_cons_succ]; rfl) (by rfl) ?_
           simp only [Act.put, List.setIfInBounds_toArray, List.set_cons_zero, List.set_cons_succ])
        | (refine wpTr_float (v := ?_) (by simp only [List.getElem?_toArray, List.getElem?_cons_zero, List.getElem?_cons_succ]; rfl) (by rfl) (fun w' hS => ?_) ?_
           rotate_left
           (obtain ⟨hSb, hSb0⟩ := hS; have eSb0 := hSb0.cell 0; have lSb0 := hSb0.lt; simp at eSb0; go_simp; first | done | rfl)
           simp only [Act.put, List.setIfInBounds_toArray, List.set_cons_zero, List.set_cons_succ]))
      refine wpTr_one ?_
      refine stepTr_K (by simp only [List.getElem?_toArray, List.getElem?_cons_zero, List.getElem?_cons_succ]; rfl) (by rfl) (fun K hK => ?_)
      go_simp
      refine (has_any A0 c0 l0 s1 _ HR0_30.out (by simp only [maxLen]; omega) _ HX.out).mono ?_
      rintro e w31 ⟨rfl, hb⟩
      have hbc := hb
      have HB32 := Lib.hid (below_then HB30.out hbc (Nat.le_refl _))
      have HR0_32 := Lib.hid ((HR0_30.out.below hbc).lt)
      have K0_32 := Lib.hid (K0_30.out.after hbc)
      clear hbc HB30 HR0_30 K0_30 hb
      refine hK.out _ _ ⟨HB32.out, K0_32.out⟩ ?_
      clear hK K
      try simp only [Act.put, List.setIfInBounds_toArray, List.set_cons_zero, List.set_cons_succ]
      refine wpTr_one ?_
      refine stepTr_K (by simp only [List.getElem?_toArray, List.getElem?_cons_zero, List.getElem?_cons_succ]; rfl) (by rfl) (fun K hK => ?_)
      go_simp
      refine (has2_any A0 c0 l0 s1 _ HR0_32.out (by simp only [maxLen]; omega) _ HX.out).mono ?_
      rintro e w33 ⟨rfl, hb⟩
      have hbc := hb
      have HB34 := Lib.hid (below_then HB32.out hbc (Nat.le_refl _))
      have HR0_34 := Lib.hid ((HR0_32.out.below hbc).lt)
      have K0_34 := Lib.hid (K0_32.out.after hbc)
      clear hbc HB32 HR0_32 K0_32 hb
      refine hK.out _ _ ⟨HB34.out, K0_34.out⟩ ?_
      clear hK K
      try simp only [Act.put, List.setIfInBounds_toArray, List.set_cons_zero, List.set_cons_succ]
      repeat (first
        | (refine wpTr_fskip (by simp only [List.getElem?_toArray, List.getElem?_cons_zero, List.getElem?_cons_succ]; rfl) (by rfl) ?_
           simp only [Act.put, List.setIfInBounds_toArray, List.set_cons_zero, List.set_cons_succ])
        | (refine wpTr_float (v := ?_) (by simp only [List.getElem?_toArray, List.getElem?_cons_zero, List.getElem?_cons_succ]; rfl) (by rfl) (fun w' hS => ?_) ?_
           rotate_left
           (obtain ⟨hSb, hSb0⟩ := hS; have eSb0 := hSb0.cell 0; have lSb0 := hSb0.lt; simp at eSb0; go_simp; first | done | rfl)
           simp only [Act.put, List.setIfInBounds_toArray, List.set_cons_zero, List.set_cons_succ]))
      refine wpTr_one ?_
      refine stepTr_K (by simp only [List.getElem?_toArray, List.getElem?_cons_zero, List.getElem?_cons_succ]; rfl) (by rfl) (fun K hK => ?_)
      go_simp
      refine (make_any A0 c0 l0 _ HR0_34.out (by omega)).mono ?_
      rintro e w35 ⟨Am, cm, rm, rfl, hc, hh, hr, hb⟩
      have hbc := hb
      have HB36 := Lib.hid (below_then HB34.out hbc (Nat.le_refl _))
      have HR0_36 := Lib.hid ((HR0_34.out.below hbc).lt)
      have K0_36 := Lib.hid (K0_34.out.after hbc)
      have Rm_36 := Lib.hid (hr)
      clear hbc HB34 HR0_34 K0_34 hb hr
      have Cm := Lib.hid hc
      have Mm := Lib.hid hh
      clear hc hh
      refine hK.out _ _ ⟨HB36.out, K0_36.out⟩ ?_
      clear hK K
      try simp only [Act.put, List.setIfInBounds_toArray, List.set_cons_zero, List.set_cons_succ]
      refine wpTr_one ?_
      refine stepTr_K (by simp only [List.getElem?_toArray, List.getElem?_cons_zero, List.getElem?_cons_succ]; rfl) (by rfl) (fun K hK => ?_)
      go_simp
      have VM : Hid (decide (hasP rm s1) = false) := by show _ = _; rw [← HX.out]; exact decide_eq_decide.2 (Mm.out s1)
      refine (has_any Am cm rm s1 _ Rm_36.out (by have := can_len Cm.out; simp only [maxLen]; omega) _ VM.out).mono ?_
      rintro e w37 ⟨rfl, hb⟩
      have hbc := hb
      have HB38 := Lib.hid (below_then HB36.out hbc (Nat.le_refl _))
      have HR0_38 := Lib.hid ((HR0_36.out.below hbc).lt)
      have K0_38 := Lib.hid (K0_36.out.after hbc)
      have Rm_38 := Lib.hid ((Rm_36.out.below hbc).lt)
      clear hbc HB36 HR0_36 K0_36 Rm_36 hb
      refine hK.out _ _ ⟨HB38.out, K0_38.out⟩ ?_
      clear hK K
      try simp only [Act.put, List.setIfInBounds_toArray, List.set_cons_zero, List.set_cons_succ]
      refine wpTr_one ?_
      refine stepTr_K (by simp only [List.getElem?_toArray, List.getElem?_cons_zero, List.getElem?_cons_succ]; rfl) (by rfl) (fun K hK => ?_)
      go_simp
      refine (has2_any A0 c0 l0 s1 _ HR0_38.out (by simp only [maxLen]; omega) _ HX.out).mono ?_
      rintro e w39 ⟨rfl, hb⟩
      have hbc := hb
      have HB40 := Lib.hid (below_then HB38.out hbc (Nat.le_refl _))
      have HR0_40 := Lib.hid ((HR0_38.out.below hbc).lt)
      have K0_40 := Lib.hid (K0_38.out.after hbc)
      have Rm_40 := Lib.hid ((Rm_38.out.below hbc).lt)
      clear hbc HB38 HR0_38 K0_38 Rm_38 hb
      refine hK.out _ _ ⟨HB40.out, K0_40.out⟩ ?_
      clear hK K
      try simp only [Act.put, List.setIfInBounds_toArray, List.set_cons_zero, List.set_cons_succ]
      repeat (first
        | (refine wpTr_fskip (by simp only [List.getElem?_toArray, List.getElem?_cons_zero, List.getElem?_cons_succ]; rfl) (by rfl) ?_
           simp only [Act.put, List.setIfInBounds_toArray, List.set_cons_zero, List.set_cons_succ])
        | (refine wpTr_float (v := ?_) (by simp only [List.getElem?_toArray, List.getElem?_cons_zero, List.getElem?_cons_succ]; rfl) (by rfl) (fun w' hS => ?_) ?_
           rotate_left
           (obtain ⟨hSb, hSb0⟩ := hS; have eSb0 := hSb0.cell 0; have lSb0 := hSb0.lt; simp at eSb0; go_simp; first | done | rfl)
           simp only [Act.put, List.setIfInBounds_toArray, List.set_cons_zero, List.set_cons_succ]))
      refine wpTr_one ?_
      refine stepTr_K (by simp only [List.getElem?_toArray, List.getElem?_cons_zero, List.getElem?_cons_succ]; rfl) (by rfl) (fun K hK => ?_)
      go_simp
      refine (alive_any _ (HD.out.below HB40.out) (HM.out.below HB40.out)).mono ?_
      rintro e w41 ⟨rfl, hb⟩
      have hbc := hb
      have HB42 := Lib.hid (below_then HB40.out hbc (Nat.le_refl _))
      have HR0_42 := Lib.hid ((HR0_40.out.below hbc).lt)
      have K0_42 := Lib.hid (K0_40.out.after hbc)
      have Rm_42 := Lib.hid ((Rm_40.out.below hbc).lt)
      clear hbc HB40 HR0_40 K0_40 Rm_40 hb
      refine hK.out _ _ ⟨HB42.out, K0_42.out⟩ ?_
      clear hK K
      try simp only [Act.put, List.setIfInBounds_toArray, List.set_cons_zero, List.set_cons_succ]
      repeat (first
        | (refine wpTr_fskip (by simp only [List.getElem?_toArray, List.getElem?_cons_zero, List.getElem?_cons_succ]; rfl) (by rfl) ?_
           simp only [Act.put, List.setIfInBounds_toArray, List.set_cons_zero, List.set_cons_succ])
        | (refine wpTr_float (v := ?_) (by simp only [List.getElem?_toArray, List.getElem?_cons_zero, List.getElem?_cons_succ]; rfl) (by rfl) (fun w' hS => ?_) ?_
           rotate_left
           (obtain ⟨hSb, hSb0⟩ := hS; have eSb0 := hSb0.cell 0; have lSb0 := hSb0.lt; simp at eSb0; go_simp; first | done | rfl)
           simp only [Act.put, List.setIfInBounds_toArray, List.set_cons_zero, List.set_cons_succ]))
      refine wpTr_done ?_
      go_wp2
      go_ret
      exact ⟨rfl, HB42.out⟩
end Go.Proofs.YtogfhaeohcpkjaaDoor.LHas
