/-
  CpsetMakes: the walk of the law: it returns true, nothing older changes.
-/
import Derived.Test.YtogfhaeohcpkjaaDoorCsL
import Derived.Test.YtogfhaeohcpkjaaDoorTree
import Derived.Deep.QuietTactic
import Derived.BigQuiet
import Derived.IntWalk
import Derived.Outline
import Derived.Test.YtogfhaeohcpkjaaDoorCr3
namespace Go.Proofs.YtogfhaeohcpkjaaDoor.LMakes
open Go.ChangeShapes Go.WideShapes Go.ChangeAt Go.RowKit Go.UtYtogfhaeohcpkjaaDoor Go.Joins
set_option maxRecDepth 100000 in
set_option maxHeartbeats 4000000 in
theorem walk (w : World) (hd : Digs w) (hm : MaxL w) (A0 : Option Addr) (c0 : Nat) (l0 : List Rg) (_lc0 : l0.length ≤ c0) (_lm0 : c0 ≤ maxLen) (hR0 : Row w w.heap.size A0 (rgs l0)) :
    Calls Tryd.prog 8 #[.agg #[.slice A0 l0.length c0]] w fun e w' => e = .returned (.bool true) ∧ Below w.heap.size w w' := by
  have HD := Lib.hid hd
  have HM := Lib.hid hm
  clear hd hm
  have HB0 := Lib.hid (Below.refl w.heap.size w)
  have HR0_0 := Lib.hid hR0
  clear hR0
  obtain ⟨bS, hS⟩ : ∃ b, decide ((l0.length : Int) ≤ 12) = b := ⟨_, rfl⟩
  have HS := Lib.hid hS
  cases bS with
  | false =>
    clear hS
    go_enter Tryd.func8, Tryd.ntmps8
    go_wp2_with fail
    obtain ⟨n1, hv, hbb, hk0⟩ : ∃ v, v = (w.alloc (.cells #[.slice A0 l0.length c0] 24)) ∧ Below w.heap.size w v ∧ Blk v (w.heap.size) 24 #[.slice A0 l0.length c0] :=
      ⟨_, rfl, (Below.refl _ _).alloc (Nat.le_refl _) _, Blk.at_new (by simp; try omega)⟩
    rw [← hv]
    clear hv
    obtain ⟨b0, ha⟩ : ∃ a, a = w.heap.size := ⟨_, rfl⟩
    rw [← ha] at hk0 ⊢
    clear ha
    have hbc := hbb
    have HB2 := Lib.hid (below_then HB0.out hbc (Nat.le_refl _))
    have HR0_2 := Lib.hid ((HR0_0.out.below hbc).lt)
    have K0_2 := Lib.hid (hk0)
    clear hbc HB0 HR0_0 hbb hk0
    refine (small_any A0 _ c0 _ _ HS.out).mono ?_
    rintro e w3 ⟨rfl, hb⟩
    have hbc := hb
    have HB4 := Lib.hid (below_then HB2.out hbc (Nat.le_refl _))
    have HR0_4 := Lib.hid ((HR0_2.out.below hbc).lt)
    have K0_4 := Lib.hid (K0_2.out.after hbc)
    clear hbc HB2 HR0_2 K0_2 hb
    go_wp2_with fail
    refine (alive_any _ (HD.out.below HB4.out) (HM.out.below HB4.out)).mono ?_
    rintro e w5 ⟨rfl, hb⟩
    have hbc := hb
    have HB6 := Lib.hid (below_then HB4.out hbc (Nat.le_refl _))
    have HR0_6 := Lib.hid ((HR0_4.out.below hbc).lt)
    have K0_6 := Lib.hid (K0_4.out.after hbc)
    clear hbc HB4 HR0_4 K0_4 hb
    go_wp2
    go_ret
    exact ⟨rfl, HB6.out⟩
  | true =>
    have hs0 : l0.length ≤ 12 := by simp at hS; omega
    clear hS
    by_cases hvv : Cnn l0
    · have Hvv := Lib.hid hvv
      clear hvv
      go_enter Tryd.func8, Tryd.ntmps8
      go_wp2_with fail
      obtain ⟨n7, hv, hbb, hk0⟩ : ∃ v, v = (w.alloc (.cells #[.slice A0 l0.length c0] 24)) ∧ Below w.heap.size w v ∧ Blk v (w.heap.size) 24 #[.slice A0 l0.length c0] :=
        ⟨_, rfl, (Below.refl _ _).alloc (Nat.le_refl _) _, Blk.at_new (by simp; try omega)⟩
      rw [← hv]
      clear hv
      obtain ⟨b0, ha⟩ : ∃ a, a = w.heap.size := ⟨_, rfl⟩
      rw [← ha] at hk0 ⊢
      clear ha
      have hbc := hbb
      have HB8 := Lib.hid (below_then HB0.out hbc (Nat.le_refl _))
      have HR0_8 := Lib.hid ((HR0_0.out.below hbc).lt)
      have K0_8 := Lib.hid (hk0)
      clear hbc HB0 HR0_0 hbb hk0
      refine (small_any A0 _ c0 _ _ HS.out).mono ?_
      rintro e w9 ⟨rfl, hb⟩
      have hbc := hb
      have HB10 := Lib.hid (below_then HB8.out hbc (Nat.le_refl _))
      have HR0_10 := Lib.hid ((HR0_8.out.below hbc).lt)
      have K0_10 := Lib.hid (K0_8.out.after hbc)
      clear hbc HB8 HR0_8 K0_8 hb
      have eK0_ := K0_10.out.cell 0
      have lK0_ := K0_10.out.lt
      simp at eK0_
      go_wp2_with fail
      clear eK0_ lK0_
      refine (make_any A0 c0 l0 _ HR0_10.out (by omega)).mono ?_
      rintro e w11 ⟨Am, cm, rm, rfl, hc, hh, hr, hb⟩
      have hbc := hb
      have HB12 := Lib.hid (below_then HB10.out hbc (Nat.le_refl _))
      have HR0_12 := Lib.hid ((HR0_10.out.below hbc).lt)
      have K0_12 := Lib.hid (K0_10.out.after hbc)
      have Rm_12 := Lib.hid (hr)
      clear hbc HB10 HR0_10 K0_10 hb hr
      have Cm := Lib.hid hc
      have Mm := Lib.hid hh
      clear hc hh
      go_wp2_with fail
      obtain ⟨n13, hv, hbb, hk0⟩ : ∃ v, v = (w11.alloc (.cells #[.slice Am rm.length cm] 24)) ∧ Below w11.heap.size w11 v ∧ Blk v (w11.heap.size) 24 #[.slice Am rm.length cm] :=
        ⟨_, rfl, (Below.refl _ _).alloc (Nat.le_refl _) _, Blk.at_new (by simp; try omega)⟩
      rw [← hv]
      clear hv
      obtain ⟨bm, ha⟩ : ∃ a, a = w11.heap.size := ⟨_, rfl⟩
      rw [← ha] at hk0 ⊢
      clear ha
      have hbc := hbb
      have HB14 := Lib.hid (below_then HB12.out hbc (Nat.le_refl _))
      have HR0_14 := Lib.hid ((HR0_12.out.below hbc).lt)
      have K0_14 := Lib.hid (K0_12.out.after hbc)
      have Rm_14 := Lib.hid ((Rm_12.out.below hbc).lt)
      have Km_14 := Lib.hid (hk0)
      clear hbc HB12 HR0_12 K0_12 Rm_12 hbb hk0
      refine wp_region_tree (fun w' => Below w.heap.size w w' ∧ Blk w' b0 24 #[.slice A0 l0.length c0] ∧ Blk w' bm 24 #[.slice Am rm.length cm]) (.float 0 (.float 1 (.float 2 (.one 3 (.one 4 (.float 5 (.float 6 (.float 8 (.one 7 (.one 9 (.float 10 (.float 11 (.float 12 (.float 13 (.one 14 (.float 15 (.float 16 (.one 17 (.float 18 (.float 19 .done)))))))))))))))))))) (by kernel_rfl) (by kernel_rfl) (fun _ _ d _ _ h => by cases d <;> exact h) ⟨HB14.out.drew, K0_14.out.drew, Km_14.out.drew⟩ ?_
      obtain ⟨d15, hdr, hbd⟩ : ∃ d, d = n13.drew ∧ Below n13.heap.size n13 d := ⟨_, rfl, (Below.refl _ _).drew⟩
      rw [← hdr]
      clear hdr
      have hbc := hbd
      have HB16 := Lib.hid (below_then HB14.out hbc (Nat.le_refl _))
      have HR0_16 := Lib.hid ((HR0_14.out.below hbc).lt)
      have K0_16 := Lib.hid (K0_14.out.after hbc)
      have Rm_16 := Lib.hid ((Rm_14.out.below hbc).lt)
      have Km_16 := Lib.hid (Km_14.out.after hbc)
      clear hbc HB14 HR0_14 K0_14 Rm_14 Km_14 hbd
      repeat (first
        | (refine wpTr_fskip (by simp only [List.getElem?_toArray, List.getElem?_cons_zero, List.getElem?_cons_succ]; rfl) (by rfl) ?_
           simp only [Act.put, List.setIfInBounds_toArray, List.set_cons_zero, List.set_cons_succ])
        | (refine wpTr_float (v := ?_) (by simp only [List.getElem?_toArray, List.getElem?_cons_zero, List.getElem?_cons_succ]; rfl) (by rfl) (fun w' hS => ?_) ?_
           rotate_left
           (obtain ⟨hSb, hSb0, hSbm⟩ := hS; have eSb0 := hSb0.cell 0; have lSb0 := hSb0.lt; simp at eSb0; have eSbm := hSbm.cell 0; have lSbm := hSbm.lt; simp at eSbm; go_simp; first | done | rfl)
           simp only [Act.put, List.setIfInBounds_toArray, List.set_cons_zero, List.set_cons_succ]))
      refine wpTr_one ?_
      refine stepTr_K (by simp only [List.getElem?_toArray, List.getElem?_cons_zero, List.getElem?_cons_succ]; rfl) (by rfl) (fun K hK => ?_)
      go_simp
      refine (rMake_any A0 c0 l0 _ HR0_16.out (by omega)).mono ?_
      rintro e w17 ⟨An, cn, rn, rfl, hc, hh, hr, hb⟩
      have hbc := hb
      have HB18 := Lib.hid (below_then HB16.out hbc (Nat.le_refl _))
      have HR0_18 := Lib.hid ((HR0_16.out.below hbc).lt)
      have K0_18 := Lib.hid (K0_16.out.after hbc)
      have Rm_18 := Lib.hid ((Rm_16.out.below hbc).lt)
      have Km_18 := Lib.hid (Km_16.out.after hbc)
      have Rn_18 := Lib.hid (hr)
      clear hbc HB16 HR0_16 K0_16 Rm_16 Km_16 hb hr
      have Cn := Lib.hid hc
      have Mn := Lib.hid hh
      clear hc hh
      refine hK.out _ _ ⟨HB18.out, K0_18.out, Km_18.out⟩ ?_
      clear hK K
      try simp only [Act.put, List.setIfInBounds_toArray, List.set_cons_zero, List.set_cons_succ]
      refine wpTr_one ?_
      refine stepTr_K (by simp only [List.getElem?_toArray, List.getElem?_cons_zero, List.getElem?_cons_succ]; rfl) (by rfl) (fun K hK => ?_)
      go_simp
      refine (same_any Am An cm cn _ _ rm rn rfl rfl _ Rm_18.out Rn_18.out (by have := can_len Cm.out; simp only [maxLen]; omega) (by have := can_len Cn.out; simp only [maxLen]; omega) true (decide_eq_true (can_eq Cm.out Cn.out (fun x => by
                simp only [Mm.out, Mn.out]
                all_goals (by_cases hk : codeP x <;> by_cases hh0 : hasP l0 x <;> first | (simp [hk, hh0]; done) | exact absurd hh0.1 hk))))).mono ?_
      rintro e w19 ⟨rfl, hb⟩
      have hbc := hb
      have HB20 := Lib.hid (below_then HB18.out hbc (Nat.le_refl _))
      have HR0_20 := Lib.hid ((HR0_18.out.below hbc).lt)
      have K0_20 := Lib.hid (K0_18.out.after hbc)
      have Rm_20 := Lib.hid ((Rm_18.out.below hbc).lt)
      have Km_20 := Lib.hid (Km_18.out.after hbc)
      have Rn_20 := Lib.hid ((Rn_18.out.below hbc).lt)
      clear hbc HB18 HR0_18 K0_18 Rm_18 Km_18 Rn_18 hb
      refine hK.out _ _ ⟨HB20.out, K0_20.out, Km_20.out⟩ ?_
      clear hK K
      try simp only [Act.put, List.setIfInBounds_toArray, List.set_cons_zero, List.set_cons_succ]
      repeat (first
        | (refine wpTr_fskip (by simp only [List.getElem?_toArray, List.getElem?_cons_zero, List.getElem?_cons_succ]; rfl) (by rfl) ?_
           simp only [Act.put, List.setIfInBounds_toArray, List.set_cons_zero, List.set_cons_succ])
        | (refine wpTr_float (v := ?_) (by simp only [List.getElem?_toArray, List.getElem?_cons_zero, List.getElem?_cons_succ]; rfl) (by rfl) (fun w' hS => ?_) ?_
           rotate_left
           (obtain ⟨hSb, hSb0, hSbm⟩ := hS; have eSb0 := hSb0.cell 0; have lSb0 := hSb0.lt; simp at eSb0; have eSbm := hSbm.cell 0; have lSbm := hSbm.lt; simp at eSbm; go_simp; first | done | rfl)
           simp only [Act.put, List.setIfInBounds_toArray, List.set_cons_zero, List.set_cons_succ]))
      refine wpTr_one ?_
      refine stepTr_K (by simp only [List.getElem?_toArray, List.getElem?_cons_zero, List.getElem?_cons_succ]; rfl) (by rfl) (fun K hK => ?_)
      go_simp
      refine (validS_any A0 _ c0 l0 rfl _ HR0_20.out (by omega) true ⟨fun _ => Hvv.out, fun _ => rfl⟩).mono ?_
      rintro e w21 ⟨rfl, hb⟩
      have hbc := hb
      have HB22 := Lib.hid (below_then HB20.out hbc (Nat.le_refl _))
      have HR0_22 := Lib.hid ((HR0_20.out.below hbc).lt)
      have K0_22 := Lib.hid (K0_20.out.after hbc)
      have Rm_22 := Lib.hid ((Rm_20.out.below hbc).lt)
      have Km_22 := Lib.hid (Km_20.out.after hbc)
      have Rn_22 := Lib.hid ((Rn_20.out.below hbc).lt)
      clear hbc HB20 HR0_20 K0_20 Rm_20 Km_20 Rn_20 hb
      refine hK.out _ _ ⟨HB22.out, K0_22.out, Km_22.out⟩ ?_
      clear hK K
      try simp only [Act.put, List.setIfInBounds_toArray, List.set_cons_zero, List.set_cons_succ]
      refine wpTr_one ?_
      refine stepTr_K (by simp only [List.getElem?_toArray, List.getElem?_cons_zero, List.getElem?_cons_succ]; rfl) (by rfl) (fun K hK => ?_)
      go_simp
      refine (rValid_any A0 c0 l0 _ HR0_22.out (by omega) true ⟨fun _ => Hvv.out, fun _ => rfl⟩).mono ?_
      rintro e w23 ⟨rfl, hb⟩
      have hbc := hb
      have HB24 := Lib.hid (below_then HB22.out hbc (Nat.le_refl _))
      have HR0_24 := Lib.hid ((HR0_22.out.below hbc).lt)
      have K0_24 := Lib.hid (K0_22.out.after hbc)
      have Rm_24 := Lib.hid ((Rm_22.out.below hbc).lt)
      have Km_24 := Lib.hid (Km_22.out.after hbc)
      have Rn_24 := Lib.hid ((Rn_22.out.below hbc).lt)
      clear hbc HB22 HR0_22 K0_22 Rm_22 Km_22 Rn_22 hb
      refine hK.out _ _ ⟨HB24.out, K0_24.out, Km_24.out⟩ ?_
      clear hK K
      try simp only [Act.put, List.setIfInBounds_toArray, List.set_cons_zero, List.set_cons_succ]
      repeat (first
        | (refine wpTr_fskip (by simp only [List.getElem?_toArray, List.getElem?_cons_zero, List.getElem?_cons_succ]; rfl) (by rfl) ?_
           simp only [Act.put, List.setIfInBounds_toArray, List.set_cons_zero, List.set_cons_succ])
        | (refine wpTr_float (v := ?_) (by simp only [List.getElem?_toArray, List.getElem?_cons_zero, List.getElem?_cons_succ]; rfl) (by rfl) (fun w' hS => ?_) ?_
           rotate_left
           (obtain ⟨hSb, hSb0, hSbm⟩ := hS; have eSb0 := hSb0.cell 0; have lSb0 := hSb0.lt; simp at eSb0; have eSbm := hSbm.cell 0; have lSbm := hSbm.lt; simp at eSbm; go_simp; first | done | rfl)
           simp only [Act.put, List.setIfInBounds_toArray, List.set_cons_zero, List.set_cons_succ]))
      refine wpTr_one ?_
      refine stepTr_K (by simp only [List.getElem?_toArray, List.getElem?_cons_zero, List.getElem?_cons_succ]; rfl) (by rfl) (fun K hK => ?_)
      go_simp
      refine (validS_any Am _ cm rm rfl _ Rm_24.out (by have := can_len Cm.out; omega) true (by simp [Cm.out])).mono ?_
      rintro e w25 ⟨rfl, hb⟩
      have hbc := hb
      have HB26 := Lib.hid (below_then HB24.out hbc (Nat.le_refl _))
      have HR0_26 := Lib.hid ((HR0_24.out.below hbc).lt)
      have K0_26 := Lib.hid (K0_24.out.after hbc)
      have Rm_26 := Lib.hid ((Rm_24.out.below hbc).lt)
      have Km_26 := Lib.hid (Km_24.out.after hbc)
      have Rn_26 := Lib.hid ((Rn_24.out.below hbc).lt)
      clear hbc HB24 HR0_24 K0_24 Rm_24 Km_24 Rn_24 hb
      refine hK.out _ _ ⟨HB26.out, K0_26.out, Km_26.out⟩ ?_
      clear hK K
      try simp only [Act.put, List.setIfInBounds_toArray, List.set_cons_zero, List.set_cons_succ]
      repeat (first
        | (refine wpTr_fskip (by simp only [List.getElem?_toArray, List.getElem?_cons_zero, List.getElem?_cons_succ]; rfl) (by rfl) ?_
           simp only [Act.put, List.setIfInBounds_toArray, List.set_cons_zero, List.set_cons_succ])
        | (refine wpTr_float (v := ?_) (by simp only [List.getElem?_toArray, List.getElem?_cons_zero, List.getElem?_cons_succ]; rfl) (by rfl) (fun w' hS => ?_) ?_
           rotate_left
           (obtain ⟨hSb, hSb0, hSbm⟩ := hS; have eSb0 := hSb0.cell 0; have lSb0 := hSb0.lt; simp at eSb0; have eSbm := hSbm.cell 0; have lSbm := hSbm.lt; simp at eSbm; go_simp; first | done | rfl)
           simp only [Act.put, List.setIfInBounds_toArray, List.set_cons_zero, List.set_cons_succ]))
      refine wpTr_one ?_
      refine stepTr_K (by simp only [List.getElem?_toArray, List.getElem?_cons_zero, List.getElem?_cons_succ]; rfl) (by rfl) (fun K hK => ?_)
      go_simp
      refine (alive_any _ (HD.out.below HB26.out) (HM.out.below HB26.out)).mono ?_
      rintro e w27 ⟨rfl, hb⟩
      have hbc := hb
      have HB28 := Lib.hid (below_then HB26.out hbc (Nat.le_refl _))
      have HR0_28 := Lib.hid ((HR0_26.out.below hbc).lt)
      have K0_28 := Lib.hid (K0_26.out.after hbc)
      have Rm_28 := Lib.hid ((Rm_26.out.below hbc).lt)
      have Km_28 := Lib.hid (Km_26.out.after hbc)
      have Rn_28 := Lib.hid ((Rn_26.out.below hbc).lt)
      clear hbc HB26 HR0_26 K0_26 Rm_26 Km_26 Rn_26 hb
      refine hK.out _ _ ⟨HB28.out, K0_28.out, Km_28.out⟩ ?_
      clear hK K
      try simp only [Act.put, List.setIfInBounds_toArray, List.set_cons_zero, List.set_cons_succ]
      repeat (first
        | (refine wpTr_fskip (by simp only [List.getElem?_toArray, List.getElem?_cons_zero, List.getElem?_cons_succ]; rfl) (by rfl) ?_
           simp only [Act.put, List.setIfInBounds_toArray, List.set_cons_zero, List.set_cons_succ])
        | (refine wpTr_float (v := ?_) (by simp only [List.getElem?_toArray, List.getElem?_cons_zero, List.getElem?_cons_succ]; rfl) (by rfl) (fun w' hS => ?_) ?_
           rotate_left
           (obtain ⟨hSb, hSb0, hSbm⟩ := hS; have eSb0 := hSb0.cell 0; have lSb0 := hSb0.lt; simp at eSb0; have eSbm := hSbm.cell 0; have lSbm := hSbm.lt; simp at eSbm; go_simp; first | done | rfl)
           simp only [Act.put, List.setIfInBounds_toArray, List.set_cons_zero, List.set_cons_succ]))
      refine wpTr_done ?_
      go_wp2
      go_ret
      exact ⟨rfl, HB28.out⟩
    · have Hvv := Lib.hid hvv
      clear hvv
      go_enter Tryd.func8, Tryd.ntmps8
      go_wp2_with fail
      obtain ⟨n29, hv, hbb, hk0⟩ : ∃ v, v = (w.alloc (.cells #[.slice A0 l0.length c0] 24)) ∧ Below w.heap.size w v ∧ Blk v (w.heap.size) 24 #[.slice A0 l0.length c0] :=
        ⟨_, rfl, (Below.refl _ _).alloc (Nat.le_refl _) _, Blk.at_new (by simp; try omega)⟩
      rw [← hv]
      clear hv
      obtain ⟨b0, ha⟩ : ∃ a, a = w.heap.size := ⟨_, rfl⟩
      rw [← ha] at hk0 ⊢
      clear ha
      have hbc := hbb
      have HB30 := Lib.hid (below_then HB0.out hbc (Nat.le_refl _))
      have HR0_30 := Lib.hid ((HR0_0.out.below hbc).lt)
      have K0_30 := Lib.hid (hk0)
      clear hbc HB0 HR0_0 hbb hk0
      refine (small_any A0 _ c0 _ _ HS.out).mono ?_
      rintro e w31 ⟨rfl, hb⟩
      have hbc := hb
      have HB32 := Lib.hid (below_then HB30.out hbc (Nat.le_refl _))
      have HR0_32 := Lib.hid ((HR0_30.out.below hbc).lt)
      have K0_32 := Lib.hid (K0_30.out.after hbc)
      clear hbc HB30 HR0_30 K0_30 hb
      have eK0_ := K0_32.out.cell 0
      have lK0_ := K0_32.out.lt
      simp at eK0_
      go_wp2_with fail
      clear eK0_ lK0_
      refine (make_any A0 c0 l0 _ HR0_32.out (by omega)).mono ?_
      rintro e w33 ⟨Am, cm, rm, rfl, hc, hh, hr, hb⟩
      have hbc := hb
      have HB34 := Lib.hid (below_then HB32.out hbc (Nat.le_refl _))
      have HR0_34 := Lib.hid ((HR0_32.out.below hbc).lt)
      have K0_34 := Lib.hid (K0_32.out.after hbc)
      have Rm_34 := Lib.hid (hr)
      clear hbc HB32 HR0_32 K0_32 hb hr
      have Cm := Lib.hid hc
      have Mm := Lib.hid hh
      clear hc hh
      go_wp2_with fail
      obtain ⟨n35, hv, hbb, hk0⟩ : ∃ v, v = (w33.alloc (.cells #[.slice Am rm.length cm] 24)) ∧ Below w33.heap.size w33 v ∧ Blk v (w33.heap.size) 24 #[.slice Am rm.length cm] :=
        ⟨_, rfl, (Below.refl _ _).alloc (Nat.le_refl _) _, Blk.at_new (by simp; try omega)⟩
      rw [← hv]
      clear hv
      obtain ⟨bm, ha⟩ : ∃ a, a = w33.heap.size := ⟨_, rfl⟩
      rw [← ha] at hk0 ⊢
      clear ha
      have hbc := hbb
      have HB36 := Lib.hid (below_then HB34.out hbc (Nat.le_refl _))
      have HR0_36 := Lib.hid ((HR0_34.out.below hbc).lt)
      have K0_36 := Lib.hid (K0_34.out.after hbc)
      have Rm_36 := Lib.hid ((Rm_34.out.below hbc).lt)
      have Km_36 := Lib.hid (hk0)
      clear hbc HB34 HR0_34 K0_34 Rm_34 hbb hk0
      refine wp_region_tree (fun w' => Below w.heap.size w w' ∧ Blk w' b0 24 #[.slice A0 l0.length c0] ∧ Blk w' bm 24 #[.slice Am rm.length cm]) (.float 0 (.float 1 (.float 2 (.one 3 (.one 4 (.float 5 (.float 6 (.float 8 (.one 7 (.one 9 (.float 10 (.float 11 (.float 12 (.float 13 (.one 14 (.float 15 (.float 16 (.one 17 (.float 18 (.float 19 .done)))))))))))))))))))) (by kernel_rfl) (by kernel_rfl) (fun _ _ d _ _ h => by cases d <;> exact h) ⟨HB36.out.drew, K0_36.out.drew, Km_36.out.drew⟩ ?_
      obtain ⟨d37, hdr, hbd⟩ : ∃ d, d = n35.drew ∧ Below n35.heap.size n35 d := ⟨_, rfl, (Below.refl _ _).drew⟩
      rw [← hdr]
      clear hdr
      have hbc := hbd
      have HB38 := Lib.hid (below_then HB36.out hbc (Nat.le_refl _))
      have HR0_38 := Lib.hid ((HR0_36.out.below hbc).lt)
      have K0_38 := Lib.hid (K0_36.out.after hbc)
      have Rm_38 := Lib.hid ((Rm_36.out.below hbc).lt)
      have Km_38 := Lib.hid (Km_36.out.after hbc)
      clear hbc HB36 HR0_36 K0_36 Rm_36 Km_36 hbd
      repeat (first
        | (refine wpTr_fskip (by simp only [List.getElem?_toArray, List.getElem?_cons_zero, List.getElem?_cons_succ]; rfl) (by rfl) ?_
           simp only [Act.put, List.setIfInBounds_toArray, List.set_cons_zero, List.set_cons_succ])
        | (refine wpTr_float (v := ?_) (by simp only [List.getElem?_toArray, List.getElem?_cons_zero, List.getElem?_cons_succ]; rfl) (by rfl) (fun w' hS => ?_) ?_
           rotate_left
           (obtain ⟨hSb, hSb0, hSbm⟩ := hS; have eSb0 := hSb0.cell 0; have lSb0 := hSb0.lt; simp at eSb0; have eSbm := hSbm.cell 0; have lSbm := hSbm.lt; simp at eSbm; go_simp; first | done | rfl)
           simp only [Act.put, List.setIfInBounds_toArray, List.set_cons_zero, List.set_cons_succ]))
      refine wpTr_one ?_
      refine stepTr_K (by simp only [List.getElem?_toArray, List.getElem?_cons_zero, List.getElem?_cons_succ]; rfl) (by rfl) (fun K hK => ?_)
      go_simp
      refine (rMake_any A0 c0 l0 _ HR0_38.out (by omega)).mono ?_
      rintro e w39 ⟨An, cn, rn, rfl, hc, hh, hr, hb⟩
      have hbc := hb
      have HB40 := Lib.hid (below_then HB38.out hbc (Nat.le_refl _))
      have HR0_40 := Lib.hid ((HR0_38.out.below hbc).lt)
      have K0_40 := Lib.hid (K0_38.out.after hbc)
      have Rm_40 := Lib.hid ((Rm_38.out.below hbc).lt)
      have Km_40 := Lib.hid (Km_38.out.after hbc)
      have Rn_40 := Lib.hid (hr)
      clear hbc HB38 HR0_38 K0_38 Rm_38 Km_38 hb hr
      have Cn := Lib.hid hc
      have Mn := Lib.hid hh
      clear hc hh
      refine hK.out _ _ ⟨HB40.out, K0_40.out, Km_40.out⟩ ?_
      clear hK K
      try simp only [Act.put, List.setIfInBounds_toArray, List.set_cons_zero, List.set_cons_succ]
      refine wpTr_one ?_
      refine stepTr_K (by simp only [List.getElem?_toArray, List.getElem?_cons_zero, List.getElem?_cons_succ]; rfl) (by rfl) (fun K hK => ?_)
      go_simp
      refine (same_any Am An cm cn _ _ rm rn rfl rfl _ Rm_40.out Rn_40.out (by have := can_len Cm.out; simp only [maxLen]; omega) (by have := can_len Cn.out; simp only [maxLen]; omega) true (decide_eq_true (can_eq Cm.out Cn.out (fun x => by
                simp only [Mm.out, Mn.out]
                all_goals (by_cases hk : codeP x <;> by_cases hh0 : hasP l0 x <;> first | (simp [hk, hh0]; done) | exact absurd hh0.1 hk))))).mono ?_
      rintro e w41 ⟨rfl, hb⟩
      have hbc := hb
      have HB42 := Lib.hid (below_then HB40.out hbc (Nat.le_refl _))
      have HR0_42 := Lib.hid ((HR0_40.out.below hbc).lt)
      have K0_42 := Lib.hid (K0_40.out.after hbc)
      have Rm_42 := Lib.hid ((Rm_40.out.below hbc).lt)
      have Km_42 := Lib.hid (Km_40.out.after hbc)
      have Rn_42 := Lib.hid ((Rn_40.out.below hbc).lt)
      clear hbc HB40 HR0_40 K0_40 Rm_40 Km_40 Rn_40 hb
      refine hK.out _ _ ⟨HB42.out, K0_42.out, Km_42.out⟩ ?_
      clear hK K
      try simp only [Act.put, List.setIfInBounds_toArray, List.set_cons_zero, List.set_cons_succ]
      repeat (first
        | (refine wpTr_fskip (by simp only [List.getElem?_toArray, List.getElem?_cons_zero, List.getElem?_cons_succ]; rfl) (by rfl) ?_
           simp only [Act.put, List.setIfInBounds_toArray, List.set_cons_zero, List.set_cons_succ])
        | (refine wpTr_float (v := ?_) (by simp only [List.getElem?_toArray, List.getElem?_cons_zero, List.getElem?_cons_succ]; rfl) (by rfl) (fun w' hS => ?_) ?_
           rotate_left
           (obtain ⟨hSb, hSb0, hSbm⟩ := hS; have eSb0 := hSb0.cell 0; have lSb0 := hSb0.lt; simp at eSb0; have eSbm := hSbm.cell 0; have lSbm := hSbm.lt; simp at eSbm; go_simp; first | done | rfl)
           simp only [Act.put, List.setIfInBounds_toArray, List.set_cons_zero, List.set_cons_succ]))
      refine wpTr_one ?_
      refine stepTr_K (by simp only [List.getElem?_toArray, List.getElem?_cons_zero, List.getElem?_cons_succ]; rfl) (by rfl) (fun K hK => ?_)
      go_simp
      refine (validS_any A0 _ c0 l0 rfl _ HR0_42.out (by omega) false ⟨(fun h => by cases h), fun h => absurd h Hvv.out⟩).mono ?_
      rintro e w43 ⟨rfl, hb⟩
      have hbc := hb
      have HB44 := Lib.hid (below_then HB42.out hbc (Nat.le_refl _))
      have HR0_44 := Lib.hid ((HR0_42.out.below hbc).lt)
      have K0_44 := Lib.hid (K0_42.out.after hbc)
      have Rm_44 := Lib.hid ((Rm_42.out.below hbc).lt)
      have Km_44 := Lib.hid (Km_42.out.after hbc)
      have Rn_44 := Lib.hid ((Rn_42.out.below hbc).lt)
      clear hbc HB42 HR0_42 K0_42 Rm_42 Km_42 Rn_42 hb
      refine hK.out _ _ ⟨HB44.out, K0_44.out, Km_44.out⟩ ?_
      clear hK K
      try simp only [Act.put, List.setIfInBounds_toArray, List.set_cons_zero, List.set_cons_succ]
      refine wpTr_one ?_
      refine stepTr_K (by simp only [List.getElem?_toArray, List.getElem?_cons_zero, List.getElem?_cons_succ]; rfl) (by rfl) (fun K hK => ?_)
      go_simp
      refine (rValid_any A0 c0 l0 _ HR0_44.out (by omega) false ⟨(fun h => by cases h), fun h => absurd h Hvv.out⟩).mono ?_
      rintro e w45 ⟨rfl, hb⟩
      have hbc := hb
      have HB46 := Lib.hid (below_then HB44.out hbc (Nat.le_refl _))
      have HR0_46 := Lib.hid ((HR0_44.out.below hbc).lt)
      have K0_46 := Lib.hid (K0_44.out.after hbc)
      have Rm_46 := Lib.hid ((Rm_44.out.below hbc).lt)
      have Km_46 := Lib.hid (Km_44.out.after hbc)
      have Rn_46 := Lib.hid ((Rn_44.out.below hbc).lt)
      clear hbc HB44 HR0_44 K0_44 Rm_44 Km_44 Rn_44 hb
      refine hK.out _ _ ⟨HB46.out, K0_46.out, Km_46.out⟩ ?_
      clear hK K
      try simp only [Act.put, List.setIfInBounds_toArray, List.set_cons_zero, List.set_cons_succ]
      repeat (first
        | (refine wpTr_fskip (by simp only [List.getElem?_toArray, List.getElem?_cons_zero, List.getElem?_cons_succ]; rfl) (by rfl) ?_
           simp only [Act.put, List.setIfInBounds_toArray, List.set_cons_zero, List.set_cons_succ])
        | (refine wpTr_float (v := ?_) (by simp only [List.getElem?_toArray, List.getElem?_cons_zero, List.getElem?_cons_succ]; rfl) (by rfl) (fun w' hS => ?_) ?_
           rotate_left
           (obtain ⟨hSb, hSb0, hSbm⟩ := hS; have eSb0 := hSb0.cell 0; have lSb0 := hSb0.lt; simp at eSb0; have eSbm := hSbm.cell 0; have lSbm := hSbm.lt; simp at eSbm; go_simp; first | done | rfl)
           simp only [Act.put, List.setIfInBounds_toArray, List.set_cons_zero, List.set_cons_succ]))
      refine wpTr_one ?_
      refine stepTr_K (by simp only [List.getElem?_toArray, List.getElem?_cons_zero, List.getElem?_cons_succ]; rfl) (by rfl) (fun K hK => ?_)
      go_simp
      refine (validS_any Am _ cm rm rfl _ Rm_46.out (by have := can_len Cm.out; omega) true (by simp [Cm.out])).mono ?_
      rintro e w47 ⟨rfl, hb⟩
      have hbc := hb
      have HB48 := Lib.hid (below_then HB46.out hbc (Nat.le_refl _))
      have HR0_48 := Lib.hid ((HR0_46.out.below hbc).lt)
      have K0_48 := Lib.hid (K0_46.out.after hbc)
      have Rm_48 := Lib.hid ((Rm_46.out.below hbc).lt)
      have Km_48 := Lib.hid (Km_46.out.after hbc)
      have Rn_48 := Lib.hid ((Rn_46.out.below hbc).lt)
      clear hbc HB46 HR0_46 K0_46 Rm_46 Km_46 Rn_46 hb
      refine hK.out _ _ ⟨HB48.out, K0_48.out, Km_48.out⟩ ?_
      clear hK K
      try simp only [Act.put, List.setIfInBounds_toArray, List.set_cons_zero, List.set_cons_succ]
      repeat (first
        | (refine wpTr_fskip (by simp only [List.getElem?_toArray, List.getElem?_cons_zero, List.getElem?_cons_succ]; rfl) (by rfl) ?_
           simp only [Act.put, List.setIfInBounds_toArray, List.set_cons_zero, List.set_cons_succ])
        | (refine wpTr_float (v := ?_) (by simp only [List.getElem?_toArray, List.getElem?_cons_zero, List.getElem?_cons_succ]; rfl) (by rfl) (fun w' hS => ?_) ?_
           rotate_left
           (obtain ⟨hSb, hSb0, hSbm⟩ := hS; have eSb0 := hSb0.cell 0; have lSb0 := hSb0.lt; simp at eSb0; have eSbm := hSbm.cell 0; have lSbm := hSbm.lt; simp at eSbm; go_simp; first | done | rfl)
           simp only [Act.put, List.setIfInBounds_toArray, List.set_cons_zero, List.set_cons_succ]))
      refine wpTr_one ?_
      refine stepTr_K (by simp only [List.getElem?_toArray, List.getElem?_cons_zero, List.getElem?_cons_succ]; rfl) (by rfl) (fun K hK => ?_)
      go_simp
      refine (alive_any _ (HD.out.below HB48.out) (HM.out.below HB48.out)).mono ?_
      rintro e w49 ⟨rfl, hb⟩
      have hbc := hb
      have HB50 := Lib.hid (below_then HB48.out hbc (Nat.le_refl _))
      have HR0_50 := Lib.hid ((HR0_48.out.below hbc).lt)
      have K0_50 := Lib.hid (K0_48.out.after hbc)
      have Rm_50 := Lib.hid ((Rm_48.out.below hbc).lt)
      have Km_50 := Lib.hid (Km_48.out.after hbc)
      have Rn_50 := Lib.hid ((Rn_48.out.below hbc).lt)
      clear hbc HB48 HR0_48 K0_48 Rm_48 Km_48 Rn_48 hb
      refine hK.out _ _ ⟨HB50.out, K0_50.out, Km_50.out⟩ ?_
      clear hK K
      try simp only [Act.put, List.setIfInBounds_toArray, List.set_cons_zero, List.set_cons_succ]
      repeat (first
        | (refine wpTr_fskip (by simp only [List.getElem?_toArray, List.getElem?_cons_zero, List.getElem?_cons_succ]; rfl) (by rfl) ?_
           simp only [Act.put, List.setIfInBounds_toArray, List.set_cons_zero, List.set_cons_succ])
        | (refine wpTr_float (v := ?_) (by simp only [List.getElem?_toArray, List.getElem?_cons_zero, List.getElem?_cons_succ]; rfl) (by rfl) (fun w' hS => ?_) ?_
           rotate_left
           (obtain ⟨hSb, hSb0, hSbm⟩ := hS; have eSb0 := hSb0.cell 0; have lSb0 := hSb0.lt; simp at eSb0; have eSbm := hSbm.cell 0; have lSbm := hSbm.lt; simp at eSbm; go_simp; first | done | rfl)
           simp only [Act.put, List.setIfInBounds_toArray, List.set_cons_zero, List.set_cons_succ]))
      refine wpTr_done ?_
      go_wp2
      go_ret
      exact ⟨rfl, HB50.out⟩
end Go.Proofs.YtogfhaeohcpkjaaDoor.LMakes
