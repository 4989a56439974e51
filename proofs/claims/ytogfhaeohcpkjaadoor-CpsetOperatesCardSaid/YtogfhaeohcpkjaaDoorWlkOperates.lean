/-
  CpsetOperates: the walk of the law: it returns true, nothing older changes.
-/
import Derived.Test.YtogfhaeohcpkjaaDoorCsL
import Derived.Test.YtogfhaeohcpkjaaDoorTree
import Derived.Deep.QuietTactic
import Derived.BigQuiet
import Derived.IntWalk
import Derived.Outline
import Derived.Test.YtogfhaeohcpkjaaDoorCr3
namespace Go.Proofs.YtogfhaeohcpkjaaDoor.LOperates
open Go.ChangeShapes Go.WideShapes Go.ChangeAt Go.RowKit Go.UtYtogfhaeohcpkjaaDoor Go.Joins
set_option maxRecDepth 100000 in
set_option maxHeartbeats 4000000 in
theorem walk (w : World) (hd : Digs w) (hm : MaxL w) (A0 : Option Addr) (c0 : Nat) (l0 : List Rg) (_lc0 : l0.length ≤ c0) (_lm0 : c0 ≤ maxLen) (hR0 : Row w w.heap.size A0 (rgs l0)) (A1 : Option Addr) (c1 : Nat) (l1 : List Rg) (_lc1 : l1.length ≤ c1) (_lm1 : c1 ≤ maxLen) (hR1 : Row w w.heap.size A1 (rgs l1)) :
    Calls Tryd.prog 9 #[.agg #[.slice A0 l0.length c0], .agg #[.slice A1 l1.length c1]] w fun e w' => e = .returned (.bool true) ∧ Below w.heap.size w w' := by
  have HD := Lib.hid hd
  have HM := Lib.hid hm
  clear hd hm
  have HB0 := Lib.hid (Below.refl w.heap.size w)
  have HR0_0 := Lib.hid hR0
  clear hR0
  have HR1_0 := Lib.hid hR1
  clear hR1
  obtain ⟨bS, hS⟩ : ∃ b, (decide ((l0.length : Int) ≤ 12) && decide ((l1.length : Int) ≤ 12)) = b := ⟨_, rfl⟩
  have HS := Lib.hid hS
  cases bS with
  | false =>
    clear hS
    go_enter Tryd.func9, Tryd.ntmps9
    go_wp2_with fail
    obtain ⟨n1, hv, hbb, hk0, hk1⟩ : ∃ v, v = ((w.alloc (.cells #[.slice A0 l0.length c0] 24)).alloc (.cells #[.slice A1 l1.length c1] 24)) ∧ Below w.heap.size w v ∧ Blk v (w.heap.size) 24 #[.slice A0 l0.length c0] ∧ Blk v (w.heap.size + 1) 24 #[.slice A1 l1.length c1] :=
      ⟨_, rfl, ((Below.refl _ _).alloc (Nat.le_refl _) _).alloc (by simp; try omega) _, (Blk.at_new (by simp; try omega)).alloc _, Blk.at_new (by simp; try omega)⟩
    rw [← hv]
    clear hv
    obtain ⟨b1, ha⟩ : ∃ a, a = w.heap.size + 1 := ⟨_, rfl⟩
    rw [← ha] at hk1 ⊢
    clear ha
    obtain ⟨b0, ha⟩ : ∃ a, a = w.heap.size := ⟨_, rfl⟩
    rw [← ha] at hk0 ⊢
    clear ha
    have hbc := hbb
    have HB2 := Lib.hid (below_then HB0.out hbc (Nat.le_refl _))
    have HR0_2 := Lib.hid ((HR0_0.out.below hbc).lt)
    have HR1_2 := Lib.hid ((HR1_0.out.below hbc).lt)
    have K0_2 := Lib.hid (hk0)
    have K1_2 := Lib.hid (hk1)
    clear hbc HB0 HR0_0 HR1_0 hbb hk0 hk1
    refine (small2_any A0 A1 _ _ c0 c1 _ _ HS.out).mono ?_
    rintro e w3 ⟨rfl, hb⟩
    have hbc := hb
    have HB4 := Lib.hid (below_then HB2.out hbc (Nat.le_refl _))
    have HR0_4 := Lib.hid ((HR0_2.out.below hbc).lt)
    have HR1_4 := Lib.hid ((HR1_2.out.below hbc).lt)
    have K0_4 := Lib.hid (K0_2.out.after hbc)
    have K1_4 := Lib.hid (K1_2.out.after hbc)
    clear hbc HB2 HR0_2 HR1_2 K0_2 K1_2 hb
    go_wp2_with fail
    refine (alive_any _ (HD.out.below HB4.out) (HM.out.below HB4.out)).mono ?_
    rintro e w5 ⟨rfl, hb⟩
    have hbc := hb
    have HB6 := Lib.hid (below_then HB4.out hbc (Nat.le_refl _))
    have HR0_6 := Lib.hid ((HR0_4.out.below hbc).lt)
    have HR1_6 := Lib.hid ((HR1_4.out.below hbc).lt)
    have K0_6 := Lib.hid (K0_4.out.after hbc)
    have K1_6 := Lib.hid (K1_4.out.after hbc)
    clear hbc HB4 HR0_4 HR1_4 K0_4 K1_4 hb
    go_wp2
    go_ret
    exact ⟨rfl, HB6.out⟩
  | true =>
    have hs0 : l0.length ≤ 12 := by simp at hS; omega
    have hs1 : l1.length ≤ 12 := by simp at hS; omega
    clear hS
    by_cases hvv : subP l0 l1
    · have Hvv := Lib.hid hvv
      clear hvv
      go_enter Tryd.func9, Tryd.ntmps9
      go_wp2_with fail
      obtain ⟨n7, hv, hbb, hk0, hk1⟩ : ∃ v, v = ((w.alloc (.cells #[.slice A0 l0.length c0] 24)).alloc (.cells #[.slice A1 l1.length c1] 24)) ∧ Below w.heap.size w v ∧ Blk v (w.heap.size) 24 #[.slice A0 l0.length c0] ∧ Blk v (w.heap.size + 1) 24 #[.slice A1 l1.length c1] :=
        ⟨_, rfl, ((Below.refl _ _).alloc (Nat.le_refl _) _).alloc (by simp; try omega) _, (Blk.at_new (by simp; try omega)).alloc _, Blk.at_new (by simp; try omega)⟩
      rw [← hv]
      clear hv
      obtain ⟨b1, ha⟩ : ∃ a, a = w.heap.size + 1 := ⟨_, rfl⟩
      rw [← ha] at hk1 ⊢
      clear ha
      obtain ⟨b0, ha⟩ : ∃ a, a = w.heap.size := ⟨_, rfl⟩
      rw [← ha] at hk0 ⊢
      clear ha
      have hbc := hbb
      have HB8 := Lib.hid (below_then HB0.out hbc (Nat.le_refl _))
      have HR0_8 := Lib.hid ((HR0_0.out.below hbc).lt)
      have HR1_8 := Lib.hid ((HR1_0.out.below hbc).lt)
      have K0_8 := Lib.hid (hk0)
      have K1_8 := Lib.hid (hk1)
      clear hbc HB0 HR0_0 HR1_0 hbb hk0 hk1
      refine (small2_any A0 A1 _ _ c0 c1 _ _ HS.out).mono ?_
      rintro e w9 ⟨rfl, hb⟩
      have hbc := hb
      have HB10 := Lib.hid (below_then HB8.out hbc (Nat.le_refl _))
      have HR0_10 := Lib.hid ((HR0_8.out.below hbc).lt)
      have HR1_10 := Lib.hid ((HR1_8.out.below hbc).lt)
      have K0_10 := Lib.hid (K0_8.out.after hbc)
      have K1_10 := Lib.hid (K1_8.out.after hbc)
      clear hbc HB8 HR0_8 HR1_8 K0_8 K1_8 hb
      go_wp2_with fail
      refine wp_region_tree (fun w' => Below w.heap.size w w' ∧ Blk w' b0 24 #[.slice A0 l0.length c0] ∧ Blk w' b1 24 #[.slice A1 l1.length c1]) (.float 0 (.float 1 (.float 3 (.float 4 (.one 2 (.one 5 (.one 6 (.float 7 (.float 8 (.float 9 (.float 11 (.float 12 (.one 10 (.one 13 (.one 14 (.float 15 (.float 16 (.float 17 (.float 18 (.float 20 (.float 21 (.one 19 (.one 22 (.one 23 (.float 24 (.float 25 (.float 26 (.float 28 (.one 27 (.one 29 (.one 30 (.float 31 (.float 32 (.float 33 (.float 34 (.float 36 (.float 37 (.one 35 (.one 38 (.float 39 (.float 40 (.float 41 (.one 42 (.float 43 (.float 44 .done))))))))))))))))))))))))))))))))))))))))))))) (by kernel_rfl) (by kernel_rfl) (fun _ _ d _ _ h => by cases d <;> exact h) ⟨HB10.out.drew, K0_10.out.drew, K1_10.out.drew⟩ ?_
      obtain ⟨d11, hdr, hbd⟩ : ∃ d, d = w9.drew ∧ Below w9.heap.size w9 d := ⟨_, rfl, (Below.refl _ _).drew⟩
      rw [← hdr]
      clear hdr
      have hbc := hbd
      have HB12 := Lib.hid (below_then HB10.out hbc (Nat.le_refl _))
      have HR0_12 := Lib.hid ((HR0_10.out.below hbc).lt)
      have HR1_12 := Lib.hid ((HR1_10.out.below hbc).lt)
      have K0_12 := Lib.hid (K0_10.out.after hbc)
      have K1_12 := Lib.hid (K1_10.out.after hbc)
      clear hbc HB10 HR0_10 HR1_10 K0_10 K1_10 hbd
      repeat (first
        | (refine wpTr_fskip (by simp only [List.getElem?_toArray, List.getElem?_cons_zero, List.getElem?_cons_succ]; rfl) (by rfl) ?_
           simp only [Act.put, List.setIfInBounds_toArray, List.set_cons_zero, List.set_cons_succ])
        | (refine wpTr_float (v := ?_) (by simp only [List.getElem?_toArray, List.getElem?_cons_zero, List.getElem?_cons_succ]; rfl) (by rfl) (fun w' hS => ?_) ?_
           rotate_left
           (obtain ⟨hSb, hSb0, hSb1⟩ := hS; have eSb0 := hSb0.cell 0; have lSb0 := hSb0.lt; simp at eSb0; have eSb1 := hSb1.cell 0; have lSb1 := hSb1.lt; simp at eSb1; go_simp; first | done | rfl)
           simp only [Act.put, List.setIfInBounds_toArray, List.set_cons_zero, List.set_cons_succ]))
      refine wpTr_one ?_
      refine stepTr_K (by simp only [List.getElem?_toArray, List.getElem?_cons_zero, List.getElem?_cons_succ]; rfl) (by rfl) (fun K hK => ?_)
      go_simp
      refine (or_any A0 A1 c0 c1 l0 l1 _ HR0_12.out HR1_12.out (by omega) (by omega)).mono ?_
      rintro e w13 ⟨Ap1, cp1, rp1, rfl, hc, hh, hr, hb⟩
      have hbc := hb
      have HB14 := Lib.hid (below_then HB12.out hbc (Nat.le_refl _))
      have HR0_14 := Lib.hid ((HR0_12.out.below hbc).lt)
      have HR1_14 := Lib.hid ((HR1_12.out.below hbc).lt)
      have K0_14 := Lib.hid (K0_12.out.after hbc)
      have K1_14 := Lib.hid (K1_12.out.after hbc)
      have Rp1_14 := Lib.hid (hr)
      clear hbc HB12 HR0_12 HR1_12 K0_12 K1_12 hb hr
      have Cp1 := Lib.hid hc
      have Mp1 := Lib.hid hh
      clear hc hh
      refine hK.out _ _ ⟨HB14.out, K0_14.out, K1_14.out⟩ ?_
      clear hK K
      try simp only [Act.put, List.setIfInBounds_toArray, List.set_cons_zero, List.set_cons_succ]
      refine wpTr_one ?_
      refine stepTr_K (by simp only [List.getElem?_toArray, List.getElem?_cons_zero, List.getElem?_cons_succ]; rfl) (by rfl) (fun K hK => ?_)
      go_simp
      refine (rOr_any A0 A1 c0 c1 l0 l1 _ HR0_14.out HR1_14.out (by omega) (by omega)).mono ?_
      rintro e w15 ⟨Ap2, cp2, rp2, rfl, hc, hh, hr, hb⟩
      have hbc := hb
      have HB16 := Lib.hid (below_then HB14.out hbc (Nat.le_refl _))
      have HR0_16 := Lib.hid ((HR0_14.out.below hbc).lt)
      have HR1_16 := Lib.hid ((HR1_14.out.below hbc).lt)
      have K0_16 := Lib.hid (K0_14.out.after hbc)
      have K1_16 := Lib.hid (K1_14.out.after hbc)
      have Rp1_16 := Lib.hid ((Rp1_14.out.below hbc).lt)
      have Rp2_16 := Lib.hid (hr)
      clear hbc HB14 HR0_14 HR1_14 K0_14 K1_14 Rp1_14 hb hr
      have Cp2 := Lib.hid hc
      have Mp2 := Lib.hid hh
      clear hc hh
      refine hK.out _ _ ⟨HB16.out, K0_16.out, K1_16.out⟩ ?_
      clear hK K
      try simp only [Act.put, List.setIfInBounds_toArray, List.set_cons_zero, List.set_cons_succ]
      refine wpTr_one ?_
      refine stepTr_K (by simp only [List.getElem?_toArray, List.getElem?_cons_zero, List.getElem?_cons_succ]; rfl) (by rfl) (fun K hK => ?_)
      go_simp
      refine (same_any Ap1 Ap2 cp1 cp2 _ _ rp1 rp2 rfl rfl _ Rp1_16.out Rp2_16.out (by have := can_len Cp1.out; simp only [maxLen]; omega) (by have := can_len Cp2.out; simp only [maxLen]; omega) true (decide_eq_true (can_eq Cp1.out Cp2.out (fun x => by
                simp only [Mp1.out, Mp2.out]
                all_goals (by_cases hk : codeP x <;> by_cases hh0 : hasP l0 x <;> by_cases hh1 : hasP l1 x <;> first | (simp [hk, hh0, hh1]; done) | exact absurd hh0.1 hk | exact absurd hh1.1 hk))))).mono ?_
      rintro e w17 ⟨rfl, hb⟩
      have hbc := hb
      have HB18 := Lib.hid (below_then HB16.out hbc (Nat.le_refl _))
      have HR0_18 := Lib.hid ((HR0_16.out.below hbc).lt)
      have HR1_18 := Lib.hid ((HR1_16.out.below hbc).lt)
      have K0_18 := Lib.hid (K0_16.out.after hbc)
      have K1_18 := Lib.hid (K1_16.out.after hbc)
      have Rp1_18 := Lib.hid ((Rp1_16.out.below hbc).lt)
      have Rp2_18 := Lib.hid ((Rp2_16.out.below hbc).lt)
      clear hbc HB16 HR0_16 HR1_16 K0_16 K1_16 Rp1_16 Rp2_16 hb
      refine hK.out _ _ ⟨HB18.out, K0_18.out, K1_18.out⟩ ?_
      clear hK K
      try simp only [Act.put, List.setIfInBounds_toArray, List.set_cons_zero, List.set_cons_succ]
      repeat (first
        | (refine wpTr_fskip (by simp only [List.getElem?_toArray, List.getElem?_cons_zero, List.getElem?_cons_succ]; rfl) (by rfl) ?_
           simp only [Act.put, List.setIfInBounds_toArray, List.set_cons_zero, List.set_cons_succ])
        | (refine wpTr_float (v := ?_) (by simp only [List.getElem?_toArray, List.getElem?_cons_zero, List.getElem?_cons_succ]; rfl) (by rfl) (fun w' hS => ?_) ?_
           rotate_left
           (obtain ⟨hSb, hSb0, hSb1⟩ := hS; have eSb0 := hSb0.cell 0; have lSb0 := hSb0.lt; simp at eSb0; have eSb1 := hSb1.cell 0; have lSb1 := hSb1.lt; simp at eSb1; go_simp; first | done | rfl)
           simp only [Act.put, List.setIfInBounds_toArray, List.set_cons_zero, List.set_cons_succ]))
      refine wpTr_one ?_
      refine stepTr_K (by simp only [List.getElem?_toArray, List.getElem?_cons_zero, List.getElem?_cons_succ]; rfl) (by rfl) (fun K hK => ?_)
      go_simp
      refine (and_any A0 A1 c0 c1 l0 l1 _ HR0_18.out HR1_18.out (by omega) (by omega)).mono ?_
      rintro e w19 ⟨Ap3, cp3, rp3, rfl, hc, hh, hr, hb⟩
      have hbc := hb
      have HB20 := Lib.hid (below_then HB18.out hbc (Nat.le_refl _))
      have HR0_20 := Lib.hid ((HR0_18.out.below hbc).lt)
      have HR1_20 := Lib.hid ((HR1_18.out.below hbc).lt)
      have K0_20 := Lib.hid (K0_18.out.after hbc)
      have K1_20 := Lib.hid (K1_18.out.after hbc)
      have Rp1_20 := Lib.hid ((Rp1_18.out.below hbc).lt)
      have Rp2_20 := Lib.hid ((Rp2_18.out.below hbc).lt)
      have Rp3_20 := Lib.hid (hr)
      clear hbc HB18 HR0_18 HR1_18 K0_18 K1_18 Rp1_18 Rp2_18 hb hr
      have Cp3 := Lib.hid hc
      have Mp3 := Lib.hid hh
      clear hc hh
      refine hK.out _ _ ⟨HB20.out, K0_20.out, K1_20.out⟩ ?_
      clear hK K
      try simp only [Act.put, List.setIfInBounds_toArray, List.set_cons_zero, List.set_cons_succ]
      refine wpTr_one ?_
      refine stepTr_K (by simp only [List.getElem?_toArray, List.getElem?_cons_zero, List.getElem?_cons_succ]; rfl) (by rfl) (fun K hK => ?_)
      go_simp
      refine (rAnd_any A0 A1 c0 c1 l0 l1 _ HR0_20.out HR1_20.out (by omega) (by omega)).mono ?_
      rintro e w21 ⟨Ap4, cp4, rp4, rfl, hc, hh, hr, hb⟩
      have hbc := hb
      have HB22 := Lib.hid (below_then HB20.out hbc (Nat.le_refl _))
      have HR0_22 := Lib.hid ((HR0_20.out.below hbc).lt)
      have HR1_22 := Lib.hid ((HR1_20.out.below hbc).lt)
      have K0_22 := Lib.hid (K0_20.out.after hbc)
      have K1_22 := Lib.hid (K1_20.out.after hbc)
      have Rp1_22 := Lib.hid ((Rp1_20.out.below hbc).lt)
      have Rp2_22 := Lib.hid ((Rp2_20.out.below hbc).lt)
      have Rp3_22 := Lib.hid ((Rp3_20.out.below hbc).lt)
      have Rp4_22 := Lib.hid (hr)
      clear hbc HB20 HR0_20 HR1_20 K0_20 K1_20 Rp1_20 Rp2_20 Rp3_20 hb hr
      have Cp4 := Lib.hid hc
      have Mp4 := Lib.hid hh
      clear hc hh
      refine hK.out _ _ ⟨HB22.out, K0_22.out, K1_22.out⟩ ?_
      clear hK K
      try simp only [Act.put, List.setIfInBounds_toArray, List.set_cons_zero, List.set_cons_succ]
      refine wpTr_one ?_
      refine stepTr_K (by simp only [List.getElem?_toArray, List.getElem?_cons_zero, List.getElem?_cons_succ]; rfl) (by rfl) (fun K hK => ?_)
      go_simp
      refine (same_any Ap3 Ap4 cp3 cp4 _ _ rp3 rp4 rfl rfl _ Rp3_22.out Rp4_22.out (by have := can_len Cp3.out; simp only [maxLen]; omega) (by have := can_len Cp4.out; simp only [maxLen]; omega) true (decide_eq_true (can_eq Cp3.out Cp4.out (fun x => by
                simp only [Mp3.out, Mp4.out]
                all_goals (by_cases hk : codeP x <;> by_cases hh0 : hasP l0 x <;> by_cases hh1 : hasP l1 x <;> first | (simp [hk, hh0, hh1]; done) | exact absurd hh0.1 hk | exact absurd hh1.1 hk))))).mono ?_
      rintro e w23 ⟨rfl, hb⟩
      have hbc := hb
      have HB24 := Lib.hid (below_then HB22.out hbc (Nat.le_refl _))
      have HR0_24 := Lib.hid ((HR0_22.out.below hbc).lt)
      have HR1_24 := Lib.hid ((HR1_22.out.below hbc).lt)
      have K0_24 := Lib.hid (K0_22.out.after hbc)
      have K1_24 := Lib.hid (K1_22.out.after hbc)
      have Rp1_24 := Lib.hid ((Rp1_22.out.below hbc).lt)
      have Rp2_24 := Lib.hid ((Rp2_22.out.below hbc).lt)
      have Rp3_24 := Lib.hid ((Rp3_22.out.below hbc).lt)
      have Rp4_24 := Lib.hid ((Rp4_22.out.below hbc).lt)
      clear hbc HB22 HR0_22 HR1_22 K0_22 K1_22 Rp1_22 Rp2_22 Rp3_22 Rp4_22 hb
      refine hK.out _ _ ⟨HB24.out, K0_24.out, K1_24.out⟩ ?_
      clear hK K
      try simp only [Act.put, List.setIfInBounds_toArray, List.set_cons_zero, List.set_cons_succ]
      repeat (first
        | (refine wpTr_fskip (by simp only [List.getElem?_toArray, List.getElem?_cons_zero, List.getElem?_cons_succ]; rfl) (by rfl) ?_
           simp only [Act.put, List.setIfInBounds_toArray, List.set_cons_zero, List.set_cons_succ])
        | (refine wpTr_float (v := ?_) (by simp only [List.getElem?_toArray, List.getElem?_cons_zero, List.getElem?_cons_succ]; rfl) (by rfl) (fun w' hS => ?_) ?_
           rotate_left
           (obtain ⟨hSb, hSb0, hSb1⟩ := hS; have eSb0 := hSb0.cell 0; have lSb0 := hSb0.lt; simp at eSb0; have eSb1 := hSb1.cell 0; have lSb1 := hSb1.lt; simp at eSb1; go_simp; first | done | rfl)
           simp only [Act.put, List.setIfInBounds_toArray, List.set_cons_zero, List.set_cons_succ]))
      refine wpTr_one ?_
      refine stepTr_K (by simp only [List.getElem?_toArray, List.getElem?_cons_zero, List.getElem?_cons_succ]; rfl) (by rfl) (fun K hK => ?_)
      go_simp
      refine (minus_any A0 A1 c0 c1 l0 l1 _ HR0_24.out HR1_24.out (by omega) (by omega)).mono ?_
      rintro e w25 ⟨Ap5, cp5, rp5, rfl, hc, hh, hr, hb⟩
      have hbc := hb
      have HB26 := Lib.hid (below_then HB24.out hbc (Nat.le_refl _))
      have HR0_26 := Lib.hid ((HR0_24.out.below hbc).lt)
      have HR1_26 := Lib.hid ((HR1_24.out.below hbc).lt)
      have K0_26 := Lib.hid (K0_24.out.after hbc)
      have K1_26 := Lib.hid (K1_24.out.after hbc)
      have Rp1_26 := Lib.hid ((Rp1_24.out.below hbc).lt)
      have Rp2_26 := Lib.hid ((Rp2_24.out.below hbc).lt)
      have Rp3_26 := Lib.hid ((Rp3_24.out.below hbc).lt)
      have Rp4_26 := Lib.hid ((Rp4_24.out.below hbc).lt)
      have Rp5_26 := Lib.hid (hr)
      clear hbc HB24 HR0_24 HR1_24 K0_24 K1_24 Rp1_24 Rp2_24 Rp3_24 Rp4_24 hb hr
      have Cp5 := Lib.hid hc
      have Mp5 := Lib.hid hh
      clear hc hh
      refine hK.out _ _ ⟨HB26.out, K0_26.out, K1_26.out⟩ ?_
      clear hK K
      try simp only [Act.put, List.setIfInBounds_toArray, List.set_cons_zero, List.set_cons_succ]
      refine wpTr_one ?_
      refine stepTr_K (by simp only [List.getElem?_toArray, List.getElem?_cons_zero, List.getElem?_cons_succ]; rfl) (by rfl) (fun K hK => ?_)
      go_simp
      refine (rMinus_any A0 A1 c0 c1 l0 l1 _ HR0_26.out HR1_26.out (by omega) (by omega)).mono ?_
      rintro e w27 ⟨Ap6, cp6, rp6, rfl, hc, hh, hr, hb⟩
      have hbc := hb
      have HB28 := Lib.hid (below_then HB26.out hbc (Nat.le_refl _))
      have HR0_28 := Lib.hid ((HR0_26.out.below hbc).lt)
      have HR1_28 := Lib.hid ((HR1_26.out.below hbc).lt)
      have K0_28 := Lib.hid (K0_26.out.after hbc)
      have K1_28 := Lib.hid (K1_26.out.after hbc)
      have Rp1_28 := Lib.hid ((Rp1_26.out.below hbc).lt)
      have Rp2_28 := Lib.hid ((Rp2_26.out.below hbc).lt)
      have Rp3_28 := Lib.hid ((Rp3_26.out.below hbc).lt)
      have Rp4_28 := Lib.hid ((Rp4_26.out.below hbc).lt)
      have Rp5_28 := Lib.hid ((Rp5_26.out.below hbc).lt)
      have Rp6_28 := Lib.hid (hr)
      clear hbc HB26 HR0_26 HR1_26 K0_26 K1_26 Rp1_26 Rp2_26 Rp3_26 Rp4_26 Rp5_26 hb hr
      have Cp6 := Lib.hid hc
      have Mp6 := Lib.hid hh
      clear hc hh
      refine hK.out _ _ ⟨HB28.out, K0_28.out, K1_28.out⟩ ?_
      clear hK K
      try simp only [Act.put, List.setIfInBounds_toArray, List.set_cons_zero, List.set_cons_succ]
      refine wpTr_one ?_
      refine stepTr_K (by simp only [List.getElem?_toArray, List.getElem?_cons_zero, List.getElem?_cons_succ]; rfl) (by rfl) (fun K hK => ?_)
      go_simp
      refine (same_any Ap5 Ap6 cp5 cp6 _ _ rp5 rp6 rfl rfl _ Rp5_28.out Rp6_28.out (by have := can_len Cp5.out; simp only [maxLen]; omega) (by have := can_len Cp6.out; simp only [maxLen]; omega) true (decide_eq_true (can_eq Cp5.out Cp6.out (fun x => by
                simp only [Mp5.out, Mp6.out]
                all_goals (by_cases hk : codeP x <;> by_cases hh0 : hasP l0 x <;> by_cases hh1 : hasP l1 x <;> first | (simp [hk, hh0, hh1]; done) | exact absurd hh0.1 hk | exact absurd hh1.1 hk))))).mono ?_
      rintro e w29 ⟨rfl, hb⟩
      have hbc := hb
      have HB30 := Lib.hid (below_then HB28.out hbc (Nat.le_refl _))
      have HR0_30 := Lib.hid ((HR0_28.out.below hbc).lt)
      have HR1_30 := Lib.hid ((HR1_28.out.below hbc).lt)
      have K0_30 := Lib.hid (K0_28.out.after hbc)
      have K1_30 := Lib.hid (K1_28.out.after hbc)
      have Rp1_30 := Lib.hid ((Rp1_28.out.below hbc).lt)
      have Rp2_30 := Lib.hid ((Rp2_28.out.below hbc).lt)
      have Rp3_30 := Lib.hid ((Rp3_28.out.below hbc).lt)
      have Rp4_30 := Lib.hid ((Rp4_28.out.below hbc).lt)
      have Rp5_30 := Lib.hid ((Rp5_28.out.below hbc).lt)
      have Rp6_30 := Lib.hid ((Rp6_28.out.below hbc).lt)
      clear hbc HB28 HR0_28 HR1_28 K0_28 K1_28 Rp1_28 Rp2_28 Rp3_28 Rp4_28 Rp5_28 Rp6_28 hb
      refine hK.out _ _ ⟨HB30.out, K0_30.out, K1_30.out⟩ ?_
      clear hK K
      try simp only [Act.put, List.setIfInBounds_toArray, List.set_cons_zero, List.set_cons_succ]
      repeat (first
        | (refine wpTr_fskip (by simp only [List.getElem?_toArray, List.getElem?_cons_zero, List.getElem?_cons_succ]; rfl) (by rfl) ?_
           simp only [Act.put, List.setIfInBounds_toArray, List.set_cons_zero, List.set_cons_succ])
        | (refine wpTr_float (v := ?_) (by simp only [List.getElem?_toArray, List.getElem?_cons_zero, List.getElem?_cons_succ]; rfl) (by rfl) (fun w' hS => ?_) ?_
           rotate_left
           (obtain ⟨hSb, hSb0, hSb1⟩ := hS; have eSb0 := hSb0.cell 0; have lSb0 := hSb0.lt; simp at eSb0; have eSb1 := hSb1.cell 0; have lSb1 := hSb1.lt; simp at eSb1; go_simp; first | done | rfl)
           simp only [Act.put, List.setIfInBounds_toArray, List.set_cons_zero, List.set_cons_succ]))
      refine wpTr_one ?_
      refine stepTr_K (by simp only [List.getElem?_toArray, List.getElem?_cons_zero, List.getElem?_cons_succ]; rfl) (by rfl) (fun K hK => ?_)
      go_simp
      refine (not_any A0 c0 l0 _ HR0_30.out (by omega)).mono ?_
      rintro e w31 ⟨Ap7, cp7, rp7, rfl, hc, hh, hr, hb⟩
      have hbc := hb
      have HB32 := Lib.hid (below_then HB30.out hbc (Nat.le_refl _))
      have HR0_32 := Lib.hid ((HR0_30.out.below hbc).lt)
      have HR1_32 := Lib.hid ((HR1_30.out.below hbc).lt)
      have K0_32 := Lib.hid (K0_30.out.after hbc)
      have K1_32 := Lib.hid (K1_30.out.after hbc)
      have Rp1_32 := Lib.hid ((Rp1_30.out.below hbc).lt)
      have Rp2_32 := Lib.hid ((Rp2_30.out.below hbc).lt)
      have Rp3_32 := Lib.hid ((Rp3_30.out.below hbc).lt)
      have Rp4_32 := Lib.hid ((Rp4_30.out.below hbc).lt)
      have Rp5_32 := Lib.hid ((Rp5_30.out.below hbc).lt)
      have Rp6_32 := Lib.hid ((Rp6_30.out.below hbc).lt)
      have Rp7_32 := Lib.hid (hr)
      clear hbc HB30 HR0_30 HR1_30 K0_30 K1_30 Rp1_30 Rp2_30 Rp3_30 Rp4_30 Rp5_30 Rp6_30 hb hr
      have Cp7 := Lib.hid hc
      have Mp7 := Lib.hid hh
      clear hc hh
      refine hK.out _ _ ⟨HB32.out, K0_32.out, K1_32.out⟩ ?_
      clear hK K
      try simp only [Act.put, List.setIfInBounds_toArray, List.set_cons_zero, List.set_cons_succ]
      refine wpTr_one ?_
      refine stepTr_K (by simp only [List.getElem?_toArray, List.getElem?_cons_zero, List.getElem?_cons_succ]; rfl) (by rfl) (fun K hK => ?_)
      go_simp
      refine (rNot_any A0 c0 l0 _ HR0_32.out (by omega)).mono ?_
      rintro e w33 ⟨Ap8, cp8, rp8, rfl, hc, hh, hr, hb⟩
      have hbc := hb
      have HB34 := Lib.hid (below_then HB32.out hbc (Nat.le_refl _))
      have HR0_34 := Lib.hid ((HR0_32.out.below hbc).lt)
      have HR1_34 := Lib.hid ((HR1_32.out.below hbc).lt)
      have K0_34 := Lib.hid (K0_32.out.after hbc)
      have K1_34 := Lib.hid (K1_32.out.after hbc)
      have Rp1_34 := Lib.hid ((Rp1_32.out.below hbc).lt)
      have Rp2_34 := Lib.hid ((Rp2_32.out.below hbc).lt)
      have Rp3_34 := Lib.hid ((Rp3_32.out.below hbc).lt)
      have Rp4_34 := Lib.hid ((Rp4_32.out.below hbc).lt)
      have Rp5_34 := Lib.hid ((Rp5_32.out.below hbc).lt)
      have Rp6_34 := Lib.hid ((Rp6_32.out.below hbc).lt)
      have Rp7_34 := Lib.hid ((Rp7_32.out.below hbc).lt)
      have Rp8_34 := Lib.hid (hr)
      clear hbc HB32 HR0_32 HR1_32 K0_32 K1_32 Rp1_32 Rp2_32 Rp3_32 Rp4_32 Rp5_32 Rp6_32 Rp7_32 hb hr
      have Cp8 := Lib.hid hc
      have Mp8 := Lib.hid hh
      clear hc hh
      refine hK.out _ _ ⟨HB34.out, K0_34.out, K1_34.out⟩ ?_
      clear hK K
      try simp only [Act.put, List.setIfInBounds_toArray, List.set_cons_zero, List.set_cons_succ]
      refine wpTr_one ?_
      refine stepTr_K (by simp only [List.getElem?_toArray, List.getElem?_cons_zero, List.getElem?_cons_succ]; rfl) (by rfl) (fun K hK => ?_)
      go_simp
      refine (same_any Ap7 Ap8 cp7 cp8 _ _ rp7 rp8 rfl rfl _ Rp7_34.out Rp8_34.out (by have := can_len Cp7.out; simp only [maxLen]; omega) (by have := can_len Cp8.out; simp only [maxLen]; omega) true (decide_eq_true (can_eq Cp7.out Cp8.out (fun x => by
                simp only [Mp7.out, Mp8.out]
                all_goals (by_cases hk : codeP x <;> by_cases hh0 : hasP l0 x <;> by_cases hh1 : hasP l1 x <;> first | (simp [hk, hh0, hh1]; done) | exact absurd hh0.1 hk | exact absurd hh1.1 hk))))).mono ?_
      rintro e w35 ⟨rfl, hb⟩
      have hbc := hb
      have HB36 := Lib.hid (below_then HB34.out hbc (Nat.le_refl _))
      have HR0_36 := Lib.hid ((HR0_34.out.below hbc).lt)
      have HR1_36 := Lib.hid ((HR1_34.out.below hbc).lt)
      have K0_36 := Lib.hid (K0_34.out.after hbc)
      have K1_36 := Lib.hid (K1_34.out.after hbc)
      have Rp1_36 := Lib.hid ((Rp1_34.out.below hbc).lt)
      have Rp2_36 := Lib.hid ((Rp2_34.out.below hbc).lt)
      have Rp3_36 := Lib.hid ((Rp3_34.out.below hbc).lt)
      have Rp4_36 := Lib.hid ((Rp4_34.out.below hbc).lt)
      have Rp5_36 := Lib.hid ((Rp5_34.out.below hbc).lt)
      have Rp6_36 := Lib.hid ((Rp6_34.out.below hbc).lt)
      have Rp7_36 := Lib.hid ((Rp7_34.out.below hbc).lt)
      have Rp8_36 := Lib.hid ((Rp8_34.out.below hbc).lt)
      clear hbc HB34 HR0_34 HR1_34 K0_34 K1_34 Rp1_34 Rp2_34 Rp3_34 Rp4_34 Rp5_34 Rp6_34 Rp7_34 Rp8_34 hb
      refine hK.out _ _ ⟨HB36.out, K0_36.out, K1_36.out⟩ ?_
      clear hK K
      try simp only [Act.put, List.setIfInBounds_toArray, List.set_cons_zero, List.set_cons_succ]
      repeat (first
        | (refine wpTr_fskip (by simp only [List.getElem?_toArray, List.getElem?_cons_zero, List.getElem?_cons_succ]; rfl) (by rfl) ?_
           simp only [Act.put, List.setIfInBounds_toArray, List.set_cons_zero, List.set_cons_succ])
        | (refine wpTr_float (v := ?_) (by simp only [List.getElem?_toArray, List.getElem?_cons_zero, List.getElem?_cons_succ]; rfl) (by rfl) (fun w' hS => ?_) ?_
           rotate_left
           (obtain ⟨hSb, hSb0, hSb1⟩ := hS; have eSb0 := hSb0.cell 0; have lSb0 := hSb0.lt; simp at eSb0; have eSb1 := hSb1.cell 0; have lSb1 := hSb1.lt; simp at eSb1; go_simp; first | done | rfl)
           simp only [Act.put, List.setIfInBounds_toArray, List.set_cons_zero, List.set_cons_succ]))
      refine wpTr_one ?_
      refine stepTr_K (by simp only [List.getElem?_toArray, List.getElem?_cons_zero, List.getElem?_cons_succ]; rfl) (by rfl) (fun K hK => ?_)
      go_simp
      refine (subset_any A0 A1 c0 c1 l0 l1 _ HR0_36.out HR1_36.out (by omega) (by omega) true ⟨fun _ => Hvv.out, fun _ => rfl⟩).mono ?_
      rintro e w37 ⟨rfl, hb⟩
      have hbc := hb
      have HB38 := Lib.hid (below_then HB36.out hbc (Nat.le_refl _))
      have HR0_38 := Lib.hid ((HR0_36.out.below hbc).lt)
      have HR1_38 := Lib.hid ((HR1_36.out.below hbc).lt)
      have K0_38 := Lib.hid (K0_36.out.after hbc)
      have K1_38 := Lib.hid (K1_36.out.after hbc)
      have Rp1_38 := Lib.hid ((Rp1_36.out.below hbc).lt)
      have Rp2_38 := Lib.hid ((Rp2_36.out.below hbc).lt)
      have Rp3_38 := Lib.hid ((Rp3_36.out.below hbc).lt)
      have Rp4_38 := Lib.hid ((Rp4_36.out.below hbc).lt)
      have Rp5_38 := Lib.hid ((Rp5_36.out.below hbc).lt)
      have Rp6_38 := Lib.hid ((Rp6_36.out.below hbc).lt)
      have Rp7_38 := Lib.hid ((Rp7_36.out.below hbc).lt)
      have Rp8_38 := Lib.hid ((Rp8_36.out.below hbc).lt)
      clear hbc HB36 HR0_36 HR1_36 K0_36 K1_36 Rp1_36 Rp2_36 Rp3_36 Rp4_36 Rp5_36 Rp6_36 Rp7_36 Rp8_36 hb
      refine hK.out _ _ ⟨HB38.out, K0_38.out, K1_38.out⟩ ?_
      clear hK K
      try simp only [Act.put, List.setIfInBounds_toArray, List.set_cons_zero, List.set_cons_succ]
      refine wpTr_one ?_
      refine stepTr_K (by simp only [List.getElem?_toArray, List.getElem?_cons_zero, List.getElem?_cons_succ]; rfl) (by rfl) (fun K hK => ?_)
      go_simp
      refine (rSubset_any A0 A1 c0 c1 l0 l1 _ HR0_38.out HR1_38.out (by omega) (by omega) true ⟨fun _ => Hvv.out, fun _ => rfl⟩).mono ?_
      rintro e w39 ⟨rfl, hb⟩
      have hbc := hb
      have HB40 := Lib.hid (below_then HB38.out hbc (Nat.le_refl _))
      have HR0_40 := Lib.hid ((HR0_38.out.below hbc).lt)
      have HR1_40 := Lib.hid ((HR1_38.out.below hbc).lt)
      have K0_40 := Lib.hid (K0_38.out.after hbc)
      have K1_40 := Lib.hid (K1_38.out.after hbc)
      have Rp1_40 := Lib.hid ((Rp1_38.out.below hbc).lt)
      have Rp2_40 := Lib.hid ((Rp2_38.out.below hbc).lt)
      have Rp3_40 := Lib.hid ((Rp3_38.out.below hbc).lt)
      have Rp4_40 := Lib.hid ((Rp4_38.out.below hbc).lt)
      have Rp5_40 := Lib.hid ((Rp5_38.out.below hbc).lt)
      have Rp6_40 := Lib.hid ((Rp6_38.out.below hbc).lt)
      have Rp7_40 := Lib.hid ((Rp7_38.out.below hbc).lt)
      have Rp8_40 := Lib.hid ((Rp8_38.out.below hbc).lt)
      clear hbc HB38 HR0_38 HR1_38 K0_38 K1_38 Rp1_38 Rp2_38 Rp3_38 Rp4_38 Rp5_38 Rp6_38 Rp7_38 Rp8_38 hb
      refine hK.out _ _ ⟨HB40.out, K0_40.out, K1_40.out⟩ ?_
      clear hK K
      try simp only [Act.put, List.setIfInBounds_toArray, List.set_cons_zero, List.set_cons_succ]
      repeat (first
        | (refine wpTr_fskip (by simp only [List.getElem?_toArray, List.getElem?_cons_zero, List.getElem?_cons_succ]; rfl) (by rfl) ?_
           simp only [Act.put, List.setIfInBounds_toArray, List.set_cons_zero, List.set_cons_succ])
        | (refine wpTr_float (v := ?_) (by simp only [List.getElem?_toArray, List.getElem?_cons_zero, List.getElem?_cons_succ]; rfl) (by rfl) (fun w' hS => ?_) ?_
           rotate_left
           (obtain ⟨hSb, hSb0, hSb1⟩ := hS; have eSb0 := hSb0.cell 0; have lSb0 := hSb0.lt; simp at eSb0; have eSb1 := hSb1.cell 0; have lSb1 := hSb1.lt; simp at eSb1; go_simp; first | done | rfl)
           simp only [Act.put, List.setIfInBounds_toArray, List.set_cons_zero, List.set_cons_succ]))
      refine wpTr_one ?_
      refine stepTr_K (by simp only [List.getElem?_toArray, List.getElem?_cons_zero, List.getElem?_cons_succ]; rfl) (by rfl) (fun K hK => ?_)
      go_simp
      refine (alive_any _ (HD.out.below HB40.out) (HM.out.below HB40.out)).mono ?_
      rintro e w41 ⟨rfl, hb⟩
      have hbc := hb
      have HB42 := Lib.hid (below_then HB40.out hbc (Nat.le_refl _))
      have HR0_42 := Lib.hid ((HR0_40.out.below hbc).lt)
      have HR1_42 := Lib.hid ((HR1_40.out.below hbc).lt)
      have K0_42 := Lib.hid (K0_40.out.after hbc)
      have K1_42 := Lib.hid (K1_40.out.after hbc)
      have Rp1_42 := Lib.hid ((Rp1_40.out.below hbc).lt)
      have Rp2_42 := Lib.hid ((Rp2_40.out.below hbc).lt)
      have Rp3_42 := Lib.hid ((Rp3_40.out.below hbc).lt)
      have Rp4_42 := Lib.hid ((Rp4_40.out.below hbc).lt)
      have Rp5_42 := Lib.hid ((Rp5_40.out.below hbc).lt)
      have Rp6_42 := Lib.hid ((Rp6_40.out.below hbc).lt)
      have Rp7_42 := Lib.hid ((Rp7_40.out.below hbc).lt)
      have Rp8_42 := Lib.hid ((Rp8_40.out.below hbc).lt)
      clear hbc HB40 HR0_40 HR1_40 K0_40 K1_40 Rp1_40 Rp2_40 Rp3_40 Rp4_40 Rp5_40 Rp6_40 Rp7_40 Rp8_40 hb
      refine hK.out _ _ ⟨HB42.out, K0_42.out, K1_42.out⟩ ?_
      clear hK K
      try simp only [Act.put, List.setIfInBounds_toArray, List.set_cons_zero, List.set_cons_succ]
      repeat (first
        | (refine wpTr_fskip (by simp only [List.getElem?_toArray, List.getElem?_cons_zero, List.getElem?_cons_succ]; rfl) (by rfl) ?_
           simp only [Act.put, List.setIfInBounds_toArray, List.set_cons_zero, List.set_cons_succ])
        | (refine wpTr_float (v := ?_) (by simp only [List.getElem?_toArray, List.getElem?_cons_zero, List.getElem?_cons_succ]; rfl) (by rfl) (fun w' hS => ?_) ?_
           rotate_left
           (obtain ⟨hSb, hSb0, hSb1⟩ := hS; have eSb0 := hSb0.cell 0; have lSb0 := hSb0.lt; simp at eSb0; have eSb1 := hSb1.cell 0; have lSb1 := hSb1.lt; simp at eSb1; go_simp; first | done | rfl)
           simp only [Act.put, List.setIfInBounds_toArray, List.set_cons_zero, List.set_cons_succ]))
      refine wpTr_done ?_
      go_wp2
      go_ret
      exact ⟨rfl, HB42.out⟩
    · have Hvv := Lib.hid hvv
      clear hvv
      go_enter Tryd.func9, Tryd.ntmps9
      go_wp2_with fail
      obtain ⟨n43, hv, hbb, hk0, hk1⟩ : ∃ v, v = ((w.alloc (.cells #[.slice A0 l0.length c0] 24)).alloc (.cells #[.slice A1 l1.length c1] 24)) ∧ Below w.heap.size w v ∧ Blk v (w.heap.size) 24 #[.slice A0 l0.length c0] ∧ Blk v (w.heap.size + 1) 24 #[.slice A1 l1.length c1] :=
        ⟨_, rfl, ((Below.refl _ _).alloc (Nat.le_refl _) _).alloc (by simp; try omega) _, (Blk.at_new (by simp; try omega)).alloc _, Blk.at_new (by simp; try omega)⟩
      rw [← hv]
      clear hv
      obtain ⟨b1, ha⟩ : ∃ a, a = w.heap.size + 1 := ⟨_, rfl⟩
      rw [← ha] at hk1 ⊢
      clear ha
      obtain ⟨b0, ha⟩ : ∃ a, a = w.heap.size := ⟨_, rfl⟩
      rw [← ha] at hk0 ⊢
      clear ha
      have hbc := hbb
      have HB44 := Lib.hid (below_then HB0.out hbc (Nat.le_refl _))
      have HR0_44 := Lib.hid ((HR0_0.out.below hbc).lt)
      have HR1_44 := Lib.hid ((HR1_0.out.below hbc).lt)
      have K0_44 := Lib.hid (hk0)
      have K1_44 := Lib.hid (hk1)
      clear hbc HB0 HR0_0 HR1_0 hbb hk0 hk1
      refine (small2_any A0 A1 _ _ c0 c1 _ _ HS.out).mono ?_
      rintro e w45 ⟨rfl, hb⟩
      have hbc := hb
      have HB46 := Lib.hid (below_then HB44.out hbc (Nat.le_refl _))
      have HR0_46 := Lib.hid ((HR0_44.out.below hbc).lt)
      have HR1_46 := Lib.hid ((HR1_44.out.below hbc).lt)
      have K0_46 := Lib.hid (K0_44.out.after hbc)
      have K1_46 := Lib.hid (K1_44.out.after hbc)
      clear hbc HB44 HR0_44 HR1_44 K0_44 K1_44 hb
      go_wp2_with fail
      refine wp_region_tree (fun w' => Below w.heap.size w w' ∧ Blk w' b0 24 #[.slice A0 l0.length c0] ∧ Blk w' b1 24 #[.slice A1 l1.length c1]) (.float 0 (.float 1 (.float 3 (.float 4 (.one 2 (.one 5 (.one 6 (.float 7 (.float 8 (.float 9 (.float 11 (.float 12 (.one 10 (.one 13 (.one 14 (.float 15 (.float 16 (.float 17 (.float 18 (.float 20 (.float 21 (.one 19 (.one 22 (.one 23 (.float 24 (.float 25 (.float 26 (.float 28 (.one 27 (.one 29 (.one 30 (.float 31 (.float 32 (.float 33 (.float 34 (.float 36 (.float 37 (.one 35 (.one 38 (.float 39 (.float 40 (.float 41 (.one 42 (.float 43 (.float 44 .done))))))))))))))))))))))))))))))))))))))))))))) (by kernel_rfl) (by kernel_rfl) (fun _ _ d _ _ h => by cases d <;> exact h) ⟨HB46.out.drew, K0_46.out.drew, K1_46.out.drew⟩ ?_
      obtain ⟨d47, hdr, hbd⟩ : ∃ d, d = w45.drew ∧ Below w45.heap.size w45 d := ⟨_, rfl, (Below.refl _ _).drew⟩
      rw [← hdr]
      clear hdr
      have hbc := hbd
      have HB48 := Lib.hid (below_then HB46.out hbc (Nat.le_refl _))
      have HR0_48 := Lib.hid ((HR0_46.out.below hbc).lt)
      have HR1_48 := Lib.hid ((HR1_46.out.below hbc).lt)
      have K0_48 := Lib.hid (K0_46.out.after hbc)
      have K1_48 := Lib.hid (K1_46.out.after hbc)
      clear hbc HB46 HR0_46 HR1_46 K0_46 K1_46 hbd
      repeat (first
        | (refine wpTr_fskip (by simp only [List.getElem?_toArray, List.getElem?_cons_zero, List.getElem?_cons_succ]; rfl) (by rfl) ?_
           simp only [Act.put, List.setIfInBounds_toArray, List.set_cons_zero, List.set_cons_succ])
        | (refine wpTr_float (v := ?_) (by simp only [List.getElem?_toArray, List.getElem?_cons_zero, List.getElem?_cons_succ]; rfl) (by rfl) (fun w' hS => ?_) ?_
           rotate_left
           (obtain ⟨hSb, hSb0, hSb1⟩ := hS; have eSb0 := hSb0.cell 0; have lSb0 := hSb0.lt; simp at eSb0; have eSb1 := hSb1.cell 0; have lSb1 := hSb1.lt; simp at eSb1; go_simp; first | done | rfl)
           simp only [Act.put, List.setIfInBounds_toArray, List.set_cons_zero, List.set_cons_succ]))
      refine wpTr_one ?_
      refine stepTr_K (by simp only [List.getElem?_toArray, List.getElem?_cons_zero, List.getElem?_cons_succ]; rfl) (by rfl) (fun K hK => ?_)
      go_simp
      refine (or_any A0 A1 c0 c1 l0 l1 _ HR0_48.out HR1_48.out (by omega) (by omega)).mono ?_
      rintro e w49 ⟨Ap1, cp1, rp1, rfl, hc, hh, hr, hb⟩
      have hbc := hb
      have HB50 := Lib.hid (below_then HB48.out hbc (Nat.le_refl _))
      have HR0_50 := Lib.hid ((HR0_48.out.below hbc).lt)
      have HR1_50 := Lib.hid ((HR1_48.out.below hbc).lt)
      have K0_50 := Lib.hid (K0_48.out.after hbc)
      have K1_50 := Lib.hid (K1_48.out.after hbc)
      have Rp1_50 := Lib.hid (hr)
      clear hbc HB48 HR0_48 HR1_48 K0_48 K1_48 hb hr
      have Cp1 := Lib.hid hc
      have Mp1 := Lib.hid hh
      clear hc hh
      refine hK.out _ _ ⟨HB50.out, K0_50.out, K1_50.out⟩ ?_
      clear hK K
      try simp only [Act.put, List.setIfInBounds_toArray, List.set_cons_zero, List.set_cons_succ]
      refine wpTr_one ?_
      refine stepTr_K (by simp only [List.getElem?_toArray, List.getElem?_cons_zero, List.getElem?_cons_succ]; rfl) (by rfl) (fun K hK => ?_)
      go_simp
      refine (rOr_any A0 A1 c0 c1 l0 l1 _ HR0_50.out HR1_50.out (by omega) (by omega)).mono ?_
      rintro e w51 ⟨Ap2, cp2, rp2, rfl, hc, hh, hr, hb⟩
      have hbc := hb
      have HB52 := Lib.hid (below_then HB50.out hbc (Nat.le_refl _))
      have HR0_52 := Lib.hid ((HR0_50.out.below hbc).lt)
      have HR1_52 := Lib.hid ((HR1_50.out.below hbc).lt)
      have K0_52 := Lib.hid (K0_50.out.after hbc)
      have K1_52 := Lib.hid (K1_50.out.after hbc)
      have Rp1_52 := Lib.hid ((Rp1_50.out.below hbc).lt)
      have Rp2_52 := Lib.hid (hr)
      clear hbc HB50 HR0_50 HR1_50 K0_50 K1_50 Rp1_50 hb hr
      have Cp2 := Lib.hid hc
      have Mp2 := Lib.hid hh
      clear hc hh
      refine hK.out _ _ ⟨HB52.out, K0_52.out, K1_52.out⟩ ?_
      clear hK K
      try simp only [Act.put, List.setIfInBounds_toArray, List.set_cons_zero, List.set_cons_succ]
      refine wpTr_one ?_
      refine stepTr_K (by simp only [List.getElem?_toArray, List.getElem?_cons_zero, List.getElem?_cons_succ]; rfl) (by rfl) (fun K hK => ?_)
      go_simp
      refine (same_any Ap1 Ap2 cp1 cp2 _ _ rp1 rp2 rfl rfl _ Rp1_52.out Rp2_52.out (by have := can_len Cp1.out; simp only [maxLen]; omega) (by have := can_len Cp2.out; simp only [maxLen]; omega) true (decide_eq_true (can_eq Cp1.out Cp2.out (fun x => by
                simp only [Mp1.out, Mp2.out]
                all_goals (by_cases hk : codeP x <;> by_cases hh0 : hasP l0 x <;> by_cases hh1 : hasP l1 x <;> first | (simp [hk, hh0, hh1]; done) | exact absurd hh0.1 hk | exact absurd hh1.1 hk))))).mono ?_
      rintro e w53 ⟨rfl, hb⟩
      have hbc := hb
      have HB54 := Lib.hid (below_then HB52.out hbc (Nat.le_refl _))
      have HR0_54 := Lib.hid ((HR0_52.out.below hbc).lt)
      have HR1_54 := Lib.hid ((HR1_52.out.below hbc).lt)
      have K0_54 := Lib.hid (K0_52.out.after hbc)
      have K1_54 := Lib.hid (K1_52.out.after hbc)
      have Rp1_54 := Lib.hid ((Rp1_52.out.below hbc).lt)
      have Rp2_54 := Lib.hid ((Rp2_52.out.below hbc).lt)
      clear hbc HB52 HR0_52 HR1_52 K0_52 K1_52 Rp1_52 Rp2_52 hb
      refine hK.out _ _ ⟨HB54.out, K0_54.out, K1_54.out⟩ ?_
      clear hK K
      try simp only [Act.put, List.setIfInBounds_toArray, List.set_cons_zero, List.set_cons_succ]
      repeat (first
        | (refine wpTr_fskip (by simp only [List.getElem?_toArray, List.getElem?_cons_zero, List.getElem?_cons_succ]; rfl) (by rfl) ?_
           simp only [Act.put, List.setIfInBounds_toArray, List.set_cons_zero, List.set_cons_succ])
        | (refine wpTr_float (v := ?_) (by simp only [List.getElem?_toArray, List.getElem?_cons_zero, List.getElem?_cons_succ]; rfl) (by rfl) (fun w' hS => ?_) ?_
           rotate_left
           (obtain ⟨hSb, hSb0, hSb1⟩ := hS; have eSb0 := hSb0.cell 0; have lSb0 := hSb0.lt; simp at eSb0; have eSb1 := hSb1.cell 0; have lSb1 := hSb1.lt; simp at eSb1; go_simp; first | done | rfl)
           simp only [Act.put, List.setIfInBounds_toArray, List.set_cons_zero, List.set_cons_succ]))
      refine wpTr_one ?_
      refine stepTr_K (by simp only [List.getElem?_toArray, List.getElem?_cons_zero, List.getElem?_cons_succ]; rfl) (by rfl) (fun K hK => ?_)
      go_simp
      refine (and_any A0 A1 c0 c1 l0 l1 _ HR0_54.out HR1_54.out (by omega) (by omega)).mono ?_
      rintro e w55 ⟨Ap3, cp3, rp3, rfl, hc, hh, hr, hb⟩
      have hbc := hb
      have HB56 := Lib.hid (below_then HB54.out hbc (Nat.le_refl _))
      have HR0_56 := Lib.hid ((HR0_54.out.below hbc).lt)
      have HR1_56 := Lib.hid ((HR1_54.out.below hbc).lt)
      have K0_56 := Lib.hid (K0_54.out.after hbc)
      have K1_56 := Lib.hid (K1_54.out.after hbc)
      have Rp1_56 := Lib.hid ((Rp1_54.out.below hbc).lt)
      have Rp2_56 := Lib.hid ((Rp2_54.out.below hbc).lt)
      have Rp3_56 := Lib.hid (hr)
      clear hbc HB54 HR0_54 HR1_54 K0_54 K1_54 Rp1_54 Rp2_54 hb hr
      have Cp3 := Lib.hid hc
      have Mp3 := Lib.hid hh
      clear hc hh
      refine hK.out _ _ ⟨HB56.out, K0_56.out, K1_56.out⟩ ?_
      clear hK K
      try simp only [Act.put, List.setIfInBounds_toArray, List.set_cons_zero, List.set_cons_succ]
      refine wpTr_one ?_
      refine stepTr_K (by simp only [List.getElem?_toArray, List.getElem?_cons_zero, List.getElem?_cons_succ]; rfl) (by rfl) (fun K hK => ?_)
      go_simp
      refine (rAnd_any A0 A1 c0 c1 l0 l1 _ HR0_56.out HR1_56.out (by omega) (by omega)).mono ?_
      rintro e w57 ⟨Ap4, cp4, rp4, rfl, hc, hh, hr, hb⟩
      have hbc := hb
      have HB58 := Lib.hid (below_then HB56.out hbc (Nat.le_refl _))
      have HR0_58 := Lib.hid ((HR0_56.out.below hbc).lt)
      have HR1_58 := Lib.hid ((HR1_56.out.below hbc).lt)
      have K0_58 := Lib.hid (K0_56.out.after hbc)
      have K1_58 := Lib.hid (K1_56.out.after hbc)
      have Rp1_58 := Lib.hid ((Rp1_56.out.below hbc).lt)
      have Rp2_58 := Lib.hid ((Rp2_56.out.below hbc).lt)
      have Rp3_58 := Lib.hid ((Rp3_56.out.below hbc).lt)
      have Rp4_58 := Lib.hid (hr)
      clear hbc HB56 HR0_56 HR1_56 K0_56 K1_56 Rp1_56 Rp2_56 Rp3_56 hb hr
      have Cp4 := Lib.hid hc
      have Mp4 := Lib.hid hh
      clear hc hh
      refine hK.out _ _ ⟨HB58.out, K0_58.out, K1_58.out⟩ ?_
      clear hK K
      try simp only [Act.put, List.setIfInBounds_toArray, List.set_cons_zero, List.set_cons_succ]
      refine wpTr_one ?_
      refine stepTr_K (by simp only [List.getElem?_toArray, List.getElem?_cons_zero, List.getElem?_cons_succ]; rfl) (by rfl) (fun K hK => ?_)
      go_simp
      refine (same_any Ap3 Ap4 cp3 cp4 _ _ rp3 rp4 rfl rfl _ Rp3_58.out Rp4_58.out (by have := can_len Cp3.out; simp only [maxLen]; omega) (by have := can_len Cp4.out; simp only [maxLen]; omega) true (decide_eq_true (can_eq Cp3.out Cp4.out (fun x => by
                simp only [Mp3.out, Mp4.out]
                all_goals (by_cases hk : codeP x <;> by_cases hh0 : hasP l0 x <;> by_cases hh1 : hasP l1 x <;> first | (simp [hk, hh0, hh1]; done) | exact absurd hh0.1 hk | exact absurd hh1.1 hk))))).mono ?_
      rintro e w59 ⟨rfl, hb⟩
      have hbc := hb
      have HB60 := Lib.hid (below_then HB58.out hbc (Nat.le_refl _))
      have HR0_60 := Lib.hid ((HR0_58.out.below hbc).lt)
      have HR1_60 := Lib.hid ((HR1_58.out.below hbc).lt)
      have K0_60 := Lib.hid (K0_58.out.after hbc)
      have K1_60 := Lib.hid (K1_58.out.after hbc)
      have Rp1_60 := Lib.hid ((Rp1_58.out.below hbc).lt)
      have Rp2_60 := Lib.hid ((Rp2_58.out.below hbc).lt)
      have Rp3_60 := Lib.hid ((Rp3_58.out.below hbc).lt)
      have Rp4_60 := Lib.hid ((Rp4_58.out.below hbc).lt)
      clear hbc HB58 HR0_58 HR1_58 K0_58 K1_58 Rp1_58 Rp2_58 Rp3_58 Rp4_58 hb
      refine hK.out _ _ ⟨HB60.out, K0_60.out, K1_60.out⟩ ?_
      clear hK K
      try simp only [Act.put, List.setIfInBounds_toArray, List.set_cons_zero, List.set_cons_succ]
      repeat (first
        | (refine wpTr_fskip (by simp only [List.getElem?_toArray, List.getElem?_cons_zero, List.getElem?_cons_succ]; rfl) (by rfl) ?_
           simp only [Act.put, List.setIfInBounds_toArray, List.set_cons_zero, List.set_cons_succ])
        | (refine wpTr_float (v := ?_) (by simp only [List.getElem?_toArray, List.getElem?_cons_zero, List.getElem?_cons_succ]; rfl) (by rfl) (fun w' hS => ?_) ?_
           rotate_left
           (obtain ⟨hSb, hSb0, hSb1⟩ := hS; have eSb0 := hSb0.cell 0; have lSb0 := hSb0.lt; simp at eSb0; have eSb1 := hSb1.cell 0; have lSb1 := hSb1.lt; simp at eSb1; go_simp; first | done | rfl)
           simp only [Act.put, List.setIfInBounds_toArray, List.set_cons_zero, List.set_cons_succ]))
      refine wpTr_one ?_
      refine stepTr_K (by simp only [List.getElem?_toArray, List.getElem?_cons_zero, List.getElem?_cons_succ]; rfl) (by rfl) (fun K hK => ?_)
      go_simp
      refine (minus_any A0 A1 c0 c1 l0 l1 _ HR0_60.out HR1_60.out (by omega) (by omega)).mono ?_
      rintro e w61 ⟨Ap5, cp5, rp5, rfl, hc, hh, hr, hb⟩
      have hbc := hb
      have HB62 := Lib.hid (below_then HB60.out hbc (Nat.le_refl _))
      have HR0_62 := Lib.hid ((HR0_60.out.below hbc).lt)
      have HR1_62 := Lib.hid ((HR1_60.out.below hbc).lt)
      have K0_62 := Lib.hid (K0_60.out.after hbc)
      have K1_62 := Lib.hid (K1_60.out.after hbc)
      have Rp1_62 := Lib.hid ((Rp1_60.out.below hbc).lt)
      have Rp2_62 := Lib.hid ((Rp2_60.out.below hbc).lt)
      have Rp3_62 := Lib.hid ((Rp3_60.out.below hbc).lt)
      have Rp4_62 := Lib.hid ((Rp4_60.out.below hbc).lt)
      have Rp5_62 := Lib.hid (hr)
      clear hbc HB60 HR0_60 HR1_60 K0_60 K1_60 Rp1_60 Rp2_60 Rp3_60 Rp4_60 hb hr
      have Cp5 := Lib.hid hc
      have Mp5 := Lib.hid hh
      clear hc hh
      refine hK.out _ _ ⟨HB62.out, K0_62.out, K1_62.out⟩ ?_
      clear hK K
      try simp only [Act.put, List.setIfInBounds_toArray, List.set_cons_zero, List.set_cons_succ]
      refine wpTr_one ?_
      refine stepTr_K (by simp only [List.getElem?_toArray, List.getElem?_cons_zero, List.getElem?_cons_succ]; rfl) (by rfl) (fun K hK => ?_)
      go_simp
      refine (rMinus_any A0 A1 c0 c1 l0 l1 _ HR0_62.out HR1_62.out (by omega) (by omega)).mono ?_
      rintro e w63 ⟨Ap6, cp6, rp6, rfl, hc, hh, hr, hb⟩
      have hbc := hb
      have HB64 := Lib.hid (below_then HB62.out hbc (Nat.le_refl _))
      have HR0_64 := Lib.hid ((HR0_62.out.below hbc).lt)
      have HR1_64 := Lib.hid ((HR1_62.out.below hbc).lt)
      have K0_64 := Lib.hid (K0_62.out.after hbc)
      have K1_64 := Lib.hid (K1_62.out.after hbc)
      have Rp1_64 := Lib.hid ((Rp1_62.out.below hbc).lt)
      have Rp2_64 := Lib.hid ((Rp2_62.out.below hbc).lt)
      have Rp3_64 := Lib.hid ((Rp3_62.out.below hbc).lt)
      have Rp4_64 := Lib.hid ((Rp4_62.out.below hbc).lt)
      have Rp5_64 := Lib.hid ((Rp5_62.out.below hbc).lt)
      have Rp6_64 := Lib.hid (hr)
      clear hbc HB62 HR0_62 HR1_62 K0_62 K1_62 Rp1_62 Rp2_62 Rp3_62 Rp4_62 Rp5_62 hb hr
      have Cp6 := Lib.hid hc
      have Mp6 := Lib.hid hh
      clear hc hh
      refine hK.out _ _ ⟨HB64.out, K0_64.out, K1_64.out⟩ ?_
      clear hK K
      try simp only [Act.put, List.setIfInBounds_toArray, List.set_cons_zero, List.set_cons_succ]
      refine wpTr_one ?_
      refine stepTr_K (by simp only [List.getElem?_toArray, List.getElem?_cons_zero, List.getElem?_cons_succ]; rfl) (by rfl) (fun K hK => ?_)
      go_simp
      refine (same_any Ap5 Ap6 cp5 cp6 _ _ rp5 rp6 rfl rfl _ Rp5_64.out Rp6_64.out (by have := can_len Cp5.out; simp only [maxLen]; omega) (by have := can_len Cp6.out; simp only [maxLen]; omega) true (decide_eq_true (can_eq Cp5.out Cp6.out (fun x => by
                simp only [Mp5.out, Mp6.out]
                all_goals (by_cases hk : codeP x <;> by_cases hh0 : hasP l0 x <;> by_cases hh1 : hasP l1 x <;> first | (simp [hk, hh0, hh1]; done) | exact absurd hh0.1 hk | exact absurd hh1.1 hk))))).mono ?_
      rintro e w65 ⟨rfl, hb⟩
      have hbc := hb
      have HB66 := Lib.hid (below_then HB64.out hbc (Nat.le_refl _))
      have HR0_66 := Lib.hid ((HR0_64.out.below hbc).lt)
      have HR1_66 := Lib.hid ((HR1_64.out.below hbc).lt)
      have K0_66 := Lib.hid (K0_64.out.after hbc)
      have K1_66 := Lib.hid (K1_64.out.after hbc)
      have Rp1_66 := Lib.hid ((Rp1_64.out.below hbc).lt)
      have Rp2_66 := Lib.hid ((Rp2_64.out.below hbc).lt)
      have Rp3_66 := Lib.hid ((Rp3_64.out.below hbc).lt)
      have Rp4_66 := Lib.hid ((Rp4_64.out.below hbc).lt)
      have Rp5_66 := Lib.hid ((Rp5_64.out.below hbc).lt)
      have Rp6_66 := Lib.hid ((Rp6_64.out.below hbc).lt)
      clear hbc HB64 HR0_64 HR1_64 K0_64 K1_64 Rp1_64 Rp2_64 Rp3_64 Rp4_64 Rp5_64 Rp6_64 hb
      refine hK.out _ _ ⟨HB66.out, K0_66.out, K1_66.out⟩ ?_
      clear hK K
      try simp only [Act.put, List.setIfInBounds_toArray, List.set_cons_zero, List.set_cons_succ]
      repeat (first
        | (refine wpTr_fskip (by simp only [List.getElem?_toArray, List.getElem?_cons_zero, List.getElem?_cons_succ]; rfl) (by rfl) ?_
           simp only [Act.put, List.setIfInBounds_toArray, List.set_cons_zero, List.set_cons_succ])
        | (refine wpTr_float (v := ?_) (by simp only [List.getElem?_toArray, List.getElem?_cons_zero, List.getElem?_cons_succ]; rfl) (by rfl) (fun w' hS => ?_) ?_
           rotate_left
           (obtain ⟨hSb, hSb0, hSb1⟩ := hS; have eSb0 := hSb0.cell 0; have lSb0 := hSb0.lt; simp at eSb0; have eSb1 := hSb1.cell 0; have lSb1 := hSb1.lt; simp at eSb1; go_simp; first | done | rfl)
           simp only [Act.put, List.setIfInBounds_toArray, List.set_cons_zero, List.set_cons_succ]))
      refine wpTr_one ?_
      refine stepTr_K (by simp only [List.getElem?_toArray, List.getElem?_cons_zero, List.getElem?_cons_succ]; rfl) (by rfl) (fun K hK => ?_)
      go_simp
      refine (not_any A0 c0 l0 _ HR0_66.out (by omega)).mono ?_
      rintro e w67 ⟨Ap7, cp7, rp7, rfl, hc, hh, hr, hb⟩
      have hbc := hb
      have HB68 := Lib.hid (below_then HB66.out hbc (Nat.le_refl _))
      have HR0_68 := Lib.hid ((HR0_66.out.below hbc).lt)
      have HR1_68 := Lib.hid ((HR1_66.out.below hbc).lt)
      have K0_68 := Lib.hid (K0_66.out.after hbc)
      have K1_68 := Lib.hid (K1_66.out.after hbc)
      have Rp1_68 := Lib.hid ((Rp1_66.out.below hbc).lt)
      have Rp2_68 := Lib.hid ((Rp2_66.out.below hbc).lt)
      have Rp3_68 := Lib.hid ((Rp3_66.out.below hbc).lt)
      have Rp4_68 := Lib.hid ((Rp4_66.out.below hbc).lt)
      have Rp5_68 := Lib.hid ((Rp5_66.out.below hbc).lt)
      have Rp6_68 := Lib.hid ((Rp6_66.out.below hbc).lt)
      have Rp7_68 := Lib.hid (hr)
      clear hbc HB66 HR0_66 HR1_66 K0_66 K1_66 Rp1_66 Rp2_66 Rp3_66 Rp4_66 Rp5_66 Rp6_66 hb hr
      have Cp7 := Lib.hid hc
      have Mp7 := Lib.hid hh
      clear hc hh
      refine hK.out _ _ ⟨HB68.out, K0_68.out, K1_68.out⟩ ?_
      clear hK K
      try simp only [Act.put, List.setIfInBounds_toArray, List.set_cons_zero, List.set_cons_succ]
      refine wpTr_one ?_
      refine stepTr_K (by simp only [List.getElem?_toArray, List.getElem?_cons_zero, List.getElem?_cons_succ]; rfl) (by rfl) (fun K hK => ?_)
      go_simp
      refine (rNot_any A0 c0 l0 _ HR0_68.out (by omega)).mono ?_
      rintro e w69 ⟨Ap8, cp8, rp8, rfl, hc, hh, hr, hb⟩
      have hbc := hb
      have HB70 := Lib.hid (below_then HB68.out hbc (Nat.le_refl _))
      have HR0_70 := Lib.hid ((HR0_68.out.below hbc).lt)
      have HR1_70 := Lib.hid ((HR1_68.out.below hbc).lt)
      have K0_70 := Lib.hid (K0_68.out.after hbc)
      have K1_70 := Lib.hid (K1_68.out.after hbc)
      have Rp1_70 := Lib.hid ((Rp1_68.out.below hbc).lt)
      have Rp2_70 := Lib.hid ((Rp2_68.out.below hbc).lt)
      have Rp3_70 := Lib.hid ((Rp3_68.out.below hbc).lt)
      have Rp4_70 := Lib.hid ((Rp4_68.out.below hbc).lt)
      have Rp5_70 := Lib.hid ((Rp5_68.out.below hbc).lt)
      have Rp6_70 := Lib.hid ((Rp6_68.out.below hbc).lt)
      have Rp7_70 := Lib.hid ((Rp7_68.out.below hbc).lt)
      have Rp8_70 := Lib.hid (hr)
      clear hbc HB68 HR0_68 HR1_68 K0_68 K1_68 Rp1_68 Rp2_68 Rp3_68 Rp4_68 Rp5_68 Rp6_68 Rp7_68 hb hr
      have Cp8 := Lib.hid hc
      have Mp8 := Lib.hid hh
      clear hc hh
      refine hK.out _ _ ⟨HB70.out, K0_70.out, K1_70.out⟩ ?_
      clear hK K
      try simp only [Act.put, List.setIfInBounds_toArray, List.set_cons_zero, List.set_cons_succ]
      refine wpTr_one ?_
      refine stepTr_K (by simp only [List.getElem?_toArray, List.getElem?_cons_zero, List.getElem?_cons_succ]; rfl) (by rfl) (fun K hK => ?_)
      go_simp
      refine (same_any Ap7 Ap8 cp7 cp8 _ _ rp7 rp8 rfl rfl _ Rp7_70.out Rp8_70.out (by have := can_len Cp7.out; simp only [maxLen]; omega) (by have := can_len Cp8.out; simp only [maxLen]; omega) true (decide_eq_true (can_eq Cp7.out Cp8.out (fun x => by
                simp only [Mp7.out, Mp8.out]
                all_goals (by_cases hk : codeP x <;> by_cases hh0 : hasP l0 x <;> by_cases hh1 : hasP l1 x <;> first | (simp [hk, hh0, hh1]; done) | exact absurd hh0.1 hk | exact absurd hh1.1 hk))))).mono ?_
      rintro e w71 ⟨rfl, hb⟩
      have hbc := hb
      have HB72 := Lib.hid (below_then HB70.out hbc (Nat.le_refl _))
      have HR0_72 := Lib.hid ((HR0_70.out.below hbc).lt)
      have HR1_72 := Lib.hid ((HR1_70.out.below hbc).lt)
      have K0_72 := Lib.hid (K0_70.out.after hbc)
      have K1_72 := Lib.hid (K1_70.out.after hbc)
      have Rp1_72 := Lib.hid ((Rp1_70.out.below hbc).lt)
      have Rp2_72 := Lib.hid ((Rp2_70.out.below hbc).lt)
      have Rp3_72 := Lib.hid ((Rp3_70.out.below hbc).lt)
      have Rp4_72 := Lib.hid ((Rp4_70.out.below hbc).lt)
      have Rp5_72 := Lib.hid ((Rp5_70.out.below hbc).lt)
      have Rp6_72 := Lib.hid ((Rp6_70.out.below hbc).lt)
      have Rp7_72 := Lib.hid ((Rp7_70.out.below hbc).lt)
      have Rp8_72 := Lib.hid ((Rp8_70.out.below hbc).lt)
      clear hbc HB70 HR0_70 HR1_70 K0_70 K1_70 Rp1_70 Rp2_70 Rp3_70 Rp4_70 Rp5_70 Rp6_70 Rp7_70 Rp8_70 hb
      refine hK.out _ _ ⟨HB72.out, K0_72.out, K1_72.out⟩ ?_
      clear hK K
      try simp only [Act.put, List.setIfInBounds_toArray, List.set_cons_zero, List.set_cons_succ]
      repeat (first
        | (refine wpTr_fskip (by simp only [List.getElem?_toArray, List.getElem?_cons_zero, List.getElem?_cons_succ]; rfl) (by rfl) ?_
           simp only [Act.put, List.setIfInBounds_toArray, List.set_cons_zero, List.set_cons_succ])
        | (refine wpTr_float (v := ?_) (by simp only [List.getElem?_toArray, List.getElem?_cons_zero, List.getElem?_cons_succ]; rfl) (by rfl) (fun w' hS => ?_) ?_
           rotate_left
           (obtain ⟨hSb, hSb0, hSb1⟩ := hS; have eSb0 := hSb0.cell 0; have lSb0 := hSb0.lt; simp at eSb0; have eSb1 := hSb1.cell 0; have lSb1 := hSb1.lt; simp at eSb1; go_simp; first | done | rfl)
           simp only [Act.put, List.setIfInBounds_toArray, List.set_cons_zero, List.set_cons_succ]))
      refine wpTr_one ?_
      refine stepTr_K (by simp only [List.getElem?_toArray, List.getElem?_cons_zero, List.getElem?_cons_succ]; rfl) (by rfl) (fun K hK => ?_)
      go_simp
      refine (subset_any A0 A1 c0 c1 l0 l1 _ HR0_72.out HR1_72.out (by omega) (by omega) false ⟨(fun h => by cases h), fun h => absurd h Hvv.out⟩).mono ?_
      rintro e w73 ⟨rfl, hb⟩
      have hbc := hb
      have HB74 := Lib.hid (below_then HB72.out hbc (Nat.le_refl _))
      have HR0_74 := Lib.hid ((HR0_72.out.below hbc).lt)
      have HR1_74 := Lib.hid ((HR1_72.out.below hbc).lt)
      have K0_74 := Lib.hid (K0_72.out.after hbc)
      have K1_74 := Lib.hid (K1_72.out.after hbc)
      have Rp1_74 := Lib.hid ((Rp1_72.out.below hbc).lt)
      have Rp2_74 := Lib.hid ((Rp2_72.out.below hbc).lt)
      have Rp3_74 := Lib.hid ((Rp3_72.out.below hbc).lt)
      have Rp4_74 := Lib.hid ((Rp4_72.out.below hbc).lt)
      have Rp5_74 := Lib.hid ((Rp5_72.out.below hbc).lt)
      have Rp6_74 := Lib.hid ((Rp6_72.out.below hbc).lt)
      have Rp7_74 := Lib.hid ((Rp7_72.out.below hbc).lt)
      have Rp8_74 := Lib.hid ((Rp8_72.out.below hbc).lt)
      clear hbc HB72 HR0_72 HR1_72 K0_72 K1_72 Rp1_72 Rp2_72 Rp3_72 Rp4_72 Rp5_72 Rp6_72 Rp7_72 Rp8_72 hb
      refine hK.out _ _ ⟨HB74.out, K0_74.out, K1_74.out⟩ ?_
      clear hK K
      try simp only [Act.put, List.setIfInBounds_toArray, List.set_cons_zero, List.set_cons_succ]
      refine wpTr_one ?_
      refine stepTr_K (by simp only [List.getElem?_toArray, List.getElem?_cons_zero, List.getElem?_cons_succ]; rfl) (by rfl) (fun K hK => ?_)
      go_simp
      refine (rSubset_any A0 A1 c0 c1 l0 l1 _ HR0_74.out HR1_74.out (by omega) (by omega) false ⟨(fun h => by cases h), fun h => absurd h Hvv.out⟩).mono ?_
      rintro e w75 ⟨rfl, hb⟩
      have hbc := hb
      have HB76 := Lib.hid (below_then HB74.out hbc (Nat.le_refl _))
      have HR0_76 := Lib.hid ((HR0_74.out.below hbc).lt)
      have HR1_76 := Lib.hid ((HR1_74.out.below hbc).lt)
      have K0_76 := Lib.hid (K0_74.out.after hbc)
      have K1_76 := Lib.hid (K1_74.out.after hbc)
      have Rp1_76 := Lib.hid ((Rp1_74.out.below hbc).lt)
      have Rp2_76 := Lib.hid ((Rp2_74.out.below hbc).lt)
      have Rp3_76 := Lib.hid ((Rp3_74.out.below hbc).lt)
      have Rp4_76 := Lib.hid ((Rp4_74.out.below hbc).lt)
      have Rp5_76 := Lib.hid ((Rp5_74.out.below hbc).lt)
      have Rp6_76 := Lib.hid ((Rp6_74.out.below hbc).lt)
      have Rp7_76 := Lib.hid ((Rp7_74.out.below hbc).lt)
      have Rp8_76 := Lib.hid ((Rp8_74.out.below hbc).lt)
      clear hbc HB74 HR0_74 HR1_74 K0_74 K1_74 Rp1_74 Rp2_74 Rp3_74 Rp4_74 Rp5_74 Rp6_74 Rp7_74 Rp8_74 hb
      refine hK.out _ _ ⟨HB76.out, K0_76.out, K1_76.out⟩ ?_
      clear hK K
      try simp only [Act.put, List.setIfInBounds_toArray, List.set_cons_zero, List.set_cons_succ]
      repeat (first
        | (refine wpTr_fskip (by simp only [List.getElem?_toArray, List.getElem?_cons_zero, List.getElem?_cons_succ]; rfl) (by rfl) ?_
           simp only [Act.put, List.setIfInBounds_toArray, List.set_cons_zero, List.set_cons_succ])
        | (refine wpTr_float (v := ?_) (by simp only [List.getElem?_toArray, List.getElem?_cons_zero, List.getElem?_cons_succ]; rfl) (by rfl) (fun w' hS => ?_) ?_
           rotate_left
           (obtain ⟨hSb, hSb0, hSb1⟩ := hS; have eSb0 := hSb0.cell 0; have lSb0 := hSb0.lt; simp at eSb0; have eSb1 := hSb1.cell 0; have lSb1 := hSb1.lt; simp at eSb1; go_simp; first | done | rfl)
           simp only [Act.put, List.setIfInBounds_toArray, List.set_cons_zero, List.set_cons_succ]))
      refine wpTr_one ?_
      refine stepTr_K (by simp only [List.getElem?_toArray, List.getElem?_cons_zero, List.getElem?_cons_succ]; rfl) (by rfl) (fun K hK => ?_)
      go_simp
      refine (alive_any _ (HD.out.below HB76.out) (HM.out.below HB76.out)).mono ?_
      rintro e w77 ⟨rfl, hb⟩
      have hbc := hb
      have HB78 := Lib.hid (below_then HB76.out hbc (Nat.le_refl _))
      have HR0_78 := Lib.hid ((HR0_76.out.below hbc).lt)
      have HR1_78 := Lib.hid ((HR1_76.out.below hbc).lt)
      have K0_78 := Lib.hid (K0_76.out.after hbc)
      have K1_78 := Lib.hid (K1_76.out.after hbc)
      have Rp1_78 := Lib.hid ((Rp1_76.out.below hbc).lt)
      have Rp2_78 := Lib.hid ((Rp2_76.out.below hbc).lt)
      have Rp3_78 := Lib.hid ((Rp3_76.out.below hbc).lt)
      have Rp4_78 := Lib.hid ((Rp4_76.out.below hbc).lt)
      have Rp5_78 := Lib.hid ((Rp5_76.out.below hbc).lt)
      have Rp6_78 := Lib.hid ((Rp6_76.out.below hbc).lt)
      have Rp7_78 := Lib.hid ((Rp7_76.out.below hbc).lt)
      have Rp8_78 := Lib.hid ((Rp8_76.out.below hbc).lt)
      clear hbc HB76 HR0_76 HR1_76 K0_76 K1_76 Rp1_76 Rp2_76 Rp3_76 Rp4_76 Rp5_76 Rp6_76 Rp7_76 Rp8_76 hb
      refine hK.out _ _ ⟨HB78.out, K0_78.out, K1_78.out⟩ ?_
      clear hK K
      try simp only [Act.put, List.setIfInBounds_toArray, List.set_cons_zero, List.set_cons_succ]
      repeat (first
        | (refine wpTr_fskip (by simp only [List.getElem?_toArray, List.getElem?_cons_zero, List.getElem?_cons_succ]; rfl) (by rfl) ?_
           simp only [Act.put, List.setIfInBounds_toArray, List.set_cons_zero, List.set_cons_succ])
        | (refine wpTr_float (v := ?_) (by simp only [List.getElem?_toArray, List.getElem?_cons_zero, List.getElem?_cons_succ]; rfl) (by rfl) (fun w' hS => ?_) ?_
           rotate_left
           (obtain ⟨hSb, hSb0, hSb1⟩ := hS; have eSb0 := hSb0.cell 0; have lSb0 := hSb0.lt; simp at eSb0; have eSb1 := hSb1.cell 0; have lSb1 := hSb1.lt; simp at eSb1; go_simp; first | done | rfl)
           simp only [Act.put, List.setIfInBounds_toArray, List.set_cons_zero, List.set_cons_succ]))
      refine wpTr_done ?_
      go_wp2
      go_ret
      exact ⟨rfl, HB78.out⟩
end Go.Proofs.YtogfhaeohcpkjaaDoor.LOperates
