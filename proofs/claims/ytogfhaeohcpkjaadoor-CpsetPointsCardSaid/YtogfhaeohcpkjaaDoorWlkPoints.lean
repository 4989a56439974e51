/-
  CpsetPoints: the walk of the law: it returns true, nothing older changes.
-/
import Derived.Test.YtogfhaeohcpkjaaDoorCsL
import Derived.Test.YtogfhaeohcpkjaaDoorTree
import Derived.Deep.QuietTactic
import Derived.BigQuiet
import Derived.IntWalk
import Derived.Outline
namespace Go.Proofs.YtogfhaeohcpkjaaDoor.LPoints
open Go.ChangeShapes Go.WideShapes Go.ChangeAt Go.RowKit Go.UtYtogfhaeohcpkjaaDoor Go.Joins
set_option maxRecDepth 100000 in
set_option maxHeartbeats 4000000 in
theorem walk (w : World) (hd : Digs w) (hm : MaxL w) (A0 : Option Addr) (c0 : Nat) (l0 : List Rg) (_lc0 : l0.length ≤ c0) (_lm0 : c0 ≤ maxLen) (hR0 : Row w w.heap.size A0 (rgs l0)) (A1 : Option Addr) (c1 : Nat) (l1 : List Rg) (_lc1 : l1.length ≤ c1) (_lm1 : c1 ≤ maxLen) (hR1 : Row w w.heap.size A1 (rgs l1)) (s2 : Int) (_hs2 : -9223372036854775808 ≤ s2 ∧ s2 ≤ 9223372036854775807) :
    Calls Tryd.prog 3 #[.agg #[.slice A0 l0.length c0], .agg #[.slice A1 l1.length c1], .int .i64 s2] w fun e w' => e = .returned (.bool true) ∧ Below w.heap.size w w' := by
  have HD := Lib.hid hd
  have HM := Lib.hid hm
  clear hd hm
  have HB0 := Lib.hid (Below.refl w.heap.size w)
  have HR0_0 := Lib.hid hR0
  clear hR0
  have HR1_0 := Lib.hid hR1
  clear hR1
  obtain ⟨bS, hS⟩ : ∃ b, (decide ((l0.length : Int) ≤ 12) && decide ((l1.length : Int) ≤ 12)) = b := ⟨_, rfl⟩
  have HS := Lib.hid hS
  cases bS with
  | false =>
    clear hS
    go_enter Tryd.func3, Tryd.ntmps3
    go_wp2_with fail
    obtain ⟨n1, hv, hbb, hk0, hk1⟩ : ∃ v, v = ((w.alloc (.cells #[.slice A0 l0.length c0] 24)).alloc (.cells #[.slice A1 l1.length c1] 24)) ∧ Below w.heap.size w v ∧ Blk v (w.heap.size) 24 #[.slice A0 l0.length c0] ∧ Blk v (w.heap.size + 1) 24 #[.slice A1 l1.length c1] :=
      ⟨_, rfl, ((Below.refl _ _).alloc (Nat.le_refl _) _).alloc (by simp; try omega) _, (Blk.at_new (by simp; try omega)).alloc _, Blk.at_new (by simp; try omega)⟩
    rw [← hv]
    clear hv
    obtain ⟨b1, ha⟩ : ∃ a, a = w.heap.size + 1 := ⟨_, rfl⟩
    rw [← ha] at hk1 ⊢
    clear ha
    obtain ⟨b0, ha⟩ : ∃ a, a = w.heap.size := ⟨_, rfl⟩
    rw [← ha] at hk0 ⊢
    clear ha
    have hbc := hbb
    have HB2 := Lib.hid (below_then HB0.out hbc (Nat.le_refl _))
    have HR0_2 := Lib.hid ((HR0_0.out.below hbc).lt)
    have HR1_2 := Lib.hid ((HR1_0.out.below hbc).lt)
    have K0_2 := Lib.hid (hk0)
    have K1_2 := Lib.hid (hk1)
    clear hbc HB0 HR0_0 HR1_0 hbb hk0 hk1
    refine (small2_any A0 A1 _ _ c0 c1 _ _ HS.out).mono ?_
    rintro e w3 ⟨rfl, hb⟩
    have hbc := hb
    have HB4 := Lib.hid (below_then HB2.out hbc (Nat.le_refl _))
    have HR0_4 := Lib.hid ((HR0_2.out.below hbc).lt)
    have HR1_4 := Lib.hid ((HR1_2.out.below hbc).lt)
    have K0_4 := Lib.hid (K0_2.out.after hbc)
    have K1_4 := Lib.hid (K1_2.out.after hbc)
    clear hbc HB2 HR0_2 HR1_2 K0_2 K1_2 hb
    go_wp2_with fail
    refine (alive_any _ (HD.out.below HB4.out) (HM.out.below HB4.out)).mono ?_
    rintro e w5 ⟨rfl, hb⟩
    have hbc := hb
    have HB6 := Lib.hid (below_then HB4.out hbc (Nat.le_refl _))
    have HR0_6 := Lib.hid ((HR0_4.out.below hbc).lt)
    have HR1_6 := Lib.hid ((HR1_4.out.below hbc).lt)
    have K0_6 := Lib.hid (K0_4.out.after hbc)
    have K1_6 := Lib.hid (K1_4.out.after hbc)
    clear hbc HB4 HR0_4 HR1_4 K0_4 K1_4 hb
    go_wp2
    go_ret
    exact ⟨rfl, HB6.out⟩
  | true =>
    have hs0 : l0.length ≤ 12 := by simp at hS; omega
    have hs1 : l1.length ≤ 12 := by simp at hS; omega
    clear hS
    rcases (show s2 < 0 ∨ (0 ≤ s2 ∧ 1114111 < s2) ∨ (0 ≤ s2 ∧ s2 ≤ 1114111) by omega) with hcc | hcc | hcc
    · have hc1 : s2 < 0 := hcc
      have hc1b : decide (0 ≤ s2) = false := by simp; omega
      have hcn : ¬ codeP s2 := fun h => by have := h.1; omega
      have hx : ¬ hasP l0 s2 := fun h => hcn h.1
      have hy : ¬ hasP l1 s2 := fun h => hcn h.1
      have HX : Hid (decide (hasP l0 s2) = false) := by show _ = _; simp [hx]
      have HY : Hid (decide (hasP l1 s2) = false) := by show _ = _; simp [hy]
      have HCN := Lib.hid hcn
      have HHX := Lib.hid hx
      have HHY := Lib.hid hy
      clear hcn hx hy hcc
      go_enter Tryd.func3, Tryd.ntmps3
      go_wp2_with fail
      obtain ⟨n7, hv, hbb, hk0, hk1⟩ : ∃ v, v = ((w.alloc (.cells #[.slice A0 l0.length c0] 24)).alloc (.cells #[.slice A1 l1.length c1] 24)) ∧ Below w.heap.size w v ∧ Blk v (w.heap.size) 24 #[.slice A0 l0.length c0] ∧ Blk v (w.heap.size + 1) 24 #[.slice A1 l1.length c1] :=
        ⟨_, rfl, ((Below.refl _ _).alloc (Nat.le_refl _) _).alloc (by simp; try omega) _, (Blk.at_new (by simp; try omega)).alloc _, Blk.at_new (by simp; try omega)⟩
      rw [← hv]
      clear hv
      obtain ⟨b1, ha⟩ : ∃ a, a = w.heap.size + 1 := ⟨_, rfl⟩
      rw [← ha] at hk1 ⊢
      clear ha
      obtain ⟨b0, ha⟩ : ∃ a, a = w.heap.size := ⟨_, rfl⟩
      rw [← ha] at hk0 ⊢
      clear ha
      have hbc := hbb
      have HB8 := Lib.hid (below_then HB0.out hbc (Nat.le_refl _))
      have HR0_8 := Lib.hid ((HR0_0.out.below hbc).lt)
      have HR1_8 := Lib.hid ((HR1_0.out.below hbc).lt)
      have K0_8 := Lib.hid (hk0)
      have K1_8 := Lib.hid (hk1)
      clear hbc HB0 HR0_0 HR1_0 hbb hk0 hk1
      refine (small2_any A0 A1 _ _ c0 c1 _ _ HS.out).mono ?_
      rintro e w9 ⟨rfl, hb⟩
      have hbc := hb
      have HB10 := Lib.hid (below_then HB8.out hbc (Nat.le_refl _))
      have HR0_10 := Lib.hid ((HR0_8.out.below hbc).lt)
      have HR1_10 := Lib.hid ((HR1_8.out.below hbc).lt)
      have K0_10 := Lib.hid (K0_8.out.after hbc)
      have K1_10 := Lib.hid (K1_8.out.after hbc)
      clear hbc HB8 HR0_8 HR1_8 K0_8 K1_8 hb
      go_wp2_with fail
      refine wp_region_tree (fun w' => Below w.heap.size w w' ∧ Blk w' b0 24 #[.slice A0 l0.length c0] ∧ Blk w' b1 24 #[.slice A1 l1.length c1]) (.float 0 (.float 1 (.float 3 (.float 4 (.float 6 (.float 7 (.one 2 (.one 5 (.float 8 (.float 9 (.float 10 (.float 11 (.float 12 (.float 13 (.float 14 .done))))))))))))))) (by kernel_rfl) (by kernel_rfl) (fun _ _ d _ _ h => by cases d <;> exact h) ⟨HB10.out.drew, K0_10.out.drew, K1_10.out.drew⟩ ?_
      obtain ⟨d11, hdr, hbd⟩ : ∃ d, d = w9.drew ∧ Below w9.heap.size w9 d := ⟨_, rfl, (Below.refl _ _).drew⟩
      rw [← hdr]
      clear hdr
      have hbc := hbd
      have HB12 := Lib.hid (below_then HB10.out hbc (Nat.le_refl _))
      have HR0_12 := Lib.hid ((HR0_10.out.below hbc).lt)
      have HR1_12 := Lib.hid ((HR1_10.out.below hbc).lt)
      have K0_12 := Lib.hid (K0_10.out.after hbc)
      have K1_12 := Lib.hid (K1_10.out.after hbc)
      clear hbc HB10 HR0_10 HR1_10 K0_10 K1_10 hbd
      repeat (first
        | (refine wpTr_fskip (by simp only [List.getElem?_toArray, List.getElem?_cons_zero, List.getElem?_cons_succ]; rfl) (by rfl) ?_
           simp only [Act.put, List.setIfInBounds_toArray, List.set_cons_zero, List.set_cons_succ])
        | (refine wpTr_float (v := ?_) (by simp only [List.getElem?_toArray, List.getElem?_cons_zero, List.getElem?_cons_succ]; rfl) (by rfl) (fun w' hS => ?_) ?_
           rotate_left
           (obtain ⟨hSb, hS0, hS1⟩ := hS; have eS0 := hS0.cell 0; have lS0 := hS0.lt; simp at eS0; have eS1 := hS1.cell 0; have lS1 := hS1.lt; simp at eS1; go_simp; first | done | rfl)
           simp only [Act.put, List.setIfInBounds_toArray, List.set_cons_zero, List.set_cons_succ]))
      refine wpTr_one ?_
      refine stepTr_K (by simp only [List.getElem?_toArray, List.getElem?_cons_zero, List.getElem?_cons_succ]; rfl) (by rfl) (fun K hK => ?_)
      go_simp
      refine (has_any A0 c0 l0 s2 _ HR0_12.out (by simp only [maxLen]; omega) _ HX.out).mono ?_
      rintro e w13 ⟨rfl, hb⟩
      have hbc := hb
      have HB14 := Lib.hid (below_then HB12.out hbc (Nat.le_refl _))
      have HR0_14 := Lib.hid ((HR0_12.out.below hbc).lt)
      have HR1_14 := Lib.hid ((HR1_12.out.below hbc).lt)
      have K0_14 := Lib.hid (K0_12.out.after hbc)
      have K1_14 := Lib.hid (K1_12.out.after hbc)
      clear hbc HB12 HR0_12 HR1_12 K0_12 K1_12 hb
      refine hK.out _ _ ⟨HB14.out, K0_14.out, K1_14.out⟩ ?_
      clear hK K
      try simp only [Act.put, List.setIfInBounds_toArray, List.set_cons_zero, List.set_cons_succ]
      refine wpTr_one ?_
      refine stepTr_K (by simp only [List.getElem?_toArray, List.getElem?_cons_zero, List.getElem?_cons_succ]; rfl) (by rfl) (fun K hK => ?_)
      go_simp
      refine (has_any A1 c1 l1 s2 _ HR1_14.out (by simp only [maxLen]; omega) _ HY.out).mono ?_
      rintro e w15 ⟨rfl, hb⟩
      have hbc := hb
      have HB16 := Lib.hid (below_then HB14.out hbc (Nat.le_refl _))
      have HR0_16 := Lib.hid ((HR0_14.out.below hbc).lt)
      have HR1_16 := Lib.hid ((HR1_14.out.below hbc).lt)
      have K0_16 := Lib.hid (K0_14.out.after hbc)
      have K1_16 := Lib.hid (K1_14.out.after hbc)
      clear hbc HB14 HR0_14 HR1_14 K0_14 K1_14 hb
      refine hK.out _ _ ⟨HB16.out, K0_16.out, K1_16.out⟩ ?_
      clear hK K
      try simp only [Act.put, List.setIfInBounds_toArray, List.set_cons_zero, List.set_cons_succ]
      repeat (first
        | (refine wpTr_fskip (by simp only [List.getElem?_toArray, List.getElem?_cons_zero, List.getElem?_cons_succ]; rfl) (by rfl) ?_
           simp only [Act.put, List.setIfInBounds_toArray, List.set_cons_zero, List.set_cons_succ])
        | (refine wpTr_float (v := ?_) (by simp only [List.getElem?_toArray, List.getElem?_cons_zero, List.getElem?_cons_succ]; rfl) (by rfl) (fun w' hS => ?_) ?_
           rotate_left
           (obtain ⟨hSb, hS0, hS1⟩ := hS; have eS0 := hS0.cell 0; have lS0 := hS0.lt; simp at eS0; have eS1 := hS1.cell 0; have lS1 := hS1.lt; simp at eS1; go_simp; first | done | rfl)
           simp only [Act.put, List.setIfInBounds_toArray, List.set_cons_zero, List.set_cons_succ]))
      refine wpTr_done ?_
      have eK0_ := K0_16.out.cell 0
      have lK0_ := K0_16.out.lt
      simp at eK0_
      have eK1_ := K1_16.out.cell 0
      have lK1_ := K1_16.out.lt
      simp at eK1_
      go_wp2_with fail
      clear eK0_ lK0_
      clear eK1_ lK1_
      refine (or_any A0 A1 c0 c1 l0 l1 _ HR0_16.out HR1_16.out (by omega) (by omega)).mono ?_
      rintro e w17 ⟨AOr, cOr, rOr, rfl, hc, hh, hr, hb⟩
      have hbc := hb
      have HB18 := Lib.hid (below_then HB16.out hbc (Nat.le_refl _))
      have HR0_18 := Lib.hid ((HR0_16.out.below hbc).lt)
      have HR1_18 := Lib.hid ((HR1_16.out.below hbc).lt)
      have K0_18 := Lib.hid (K0_16.out.after hbc)
      have K1_18 := Lib.hid (K1_16.out.after hbc)
      have ROr_18 := Lib.hid (hr)
      clear hbc HB16 HR0_16 HR1_16 K0_16 K1_16 hb hr
      have COr := Lib.hid hc
      have MOr := Lib.hid hh
      clear hc hh
      have VOr : Hid (decide (hasP rOr s2) = false) := by
        show _ = _
        have h1 := MOr.out s2
        have h2 := HHX.out
        have h3 := HHY.out
        have h4 := HCN.out
        simp [h1, h2, h3]
      go_wp2_with fail
      refine (has_any AOr cOr rOr s2 _ ROr_18.out (by have := can_len COr.out; simp only [maxLen]; omega) _ VOr.out).mono ?_
      rintro e w19 ⟨rfl, hb⟩
      have hbc := hb
      have HB20 := Lib.hid (below_then HB18.out hbc (Nat.le_refl _))
      have HR0_20 := Lib.hid ((HR0_18.out.below hbc).lt)
      have HR1_20 := Lib.hid ((HR1_18.out.below hbc).lt)
      have K0_20 := Lib.hid (K0_18.out.after hbc)
      have K1_20 := Lib.hid (K1_18.out.after hbc)
      have ROr_20 := Lib.hid ((ROr_18.out.below hbc).lt)
      clear hbc HB18 HR0_18 HR1_18 K0_18 K1_18 ROr_18 hb
      have eK0_ := K0_20.out.cell 0
      have lK0_ := K0_20.out.lt
      simp at eK0_
      have eK1_ := K1_20.out.cell 0
      have lK1_ := K1_20.out.lt
      simp at eK1_
      go_wp2_with fail
      clear eK0_ lK0_
      clear eK1_ lK1_
      refine (and_any A0 A1 c0 c1 l0 l1 _ HR0_20.out HR1_20.out (by omega) (by omega)).mono ?_
      rintro e w21 ⟨AAnd, cAnd, rAnd, rfl, hc, hh, hr, hb⟩
      have hbc := hb
      have HB22 := Lib.hid (below_then HB20.out hbc (Nat.le_refl _))
      have HR0_22 := Lib.hid ((HR0_20.out.below hbc).lt)
      have HR1_22 := Lib.hid ((HR1_20.out.below hbc).lt)
      have K0_22 := Lib.hid (K0_20.out.after hbc)
      have K1_22 := Lib.hid (K1_20.out.after hbc)
      have ROr_22 := Lib.hid ((ROr_20.out.below hbc).lt)
      have RAnd_22 := Lib.hid (hr)
      clear hbc HB20 HR0_20 HR1_20 K0_20 K1_20 ROr_20 hb hr
      have CAnd := Lib.hid hc
      have MAnd := Lib.hid hh
      clear hc hh
      have VAnd : Hid (decide (hasP rAnd s2) = false) := by
        show _ = _
        have h1 := MAnd.out s2
        have h2 := HHX.out
        have h3 := HHY.out
        have h4 := HCN.out
        simp [h1, h2, h3]
      go_wp2_with fail
      refine (has_any AAnd cAnd rAnd s2 _ RAnd_22.out (by have := can_len CAnd.out; simp only [maxLen]; omega) _ VAnd.out).mono ?_
      rintro e w23 ⟨rfl, hb⟩
      have hbc := hb
      have HB24 := Lib.hid (below_then HB22.out hbc (Nat.le_refl _))
      have HR0_24 := Lib.hid ((HR0_22.out.below hbc).lt)
      have HR1_24 := Lib.hid ((HR1_22.out.below hbc).lt)
      have K0_24 := Lib.hid (K0_22.out.after hbc)
      have K1_24 := Lib.hid (K1_22.out.after hbc)
      have ROr_24 := Lib.hid ((ROr_22.out.below hbc).lt)
      have RAnd_24 := Lib.hid ((RAnd_22.out.below hbc).lt)
      clear hbc HB22 HR0_22 HR1_22 K0_22 K1_22 ROr_22 RAnd_22 hb
      have eK0_ := K0_24.out.cell 0
      have lK0_ := K0_24.out.lt
      simp at eK0_
      have eK1_ := K1_24.out.cell 0
      have lK1_ := K1_24.out.lt
      simp at eK1_
      go_wp2_with fail
      clear eK0_ lK0_
      clear eK1_ lK1_
      refine (minus_any A0 A1 c0 c1 l0 l1 _ HR0_24.out HR1_24.out (by omega) (by omega)).mono ?_
      rintro e w25 ⟨AMi, cMi, rMi, rfl, hc, hh, hr, hb⟩
      have hbc := hb
      have HB26 := Lib.hid (below_then HB24.out hbc (Nat.le_refl _))
      have HR0_26 := Lib.hid ((HR0_24.out.below hbc).lt)
      have HR1_26 := Lib.hid ((HR1_24.out.below hbc).lt)
      have K0_26 := Lib.hid (K0_24.out.after hbc)
      have K1_26 := Lib.hid (K1_24.out.after hbc)
      have ROr_26 := Lib.hid ((ROr_24.out.below hbc).lt)
      have RAnd_26 := Lib.hid ((RAnd_24.out.below hbc).lt)
      have RMi_26 := Lib.hid (hr)
      clear hbc HB24 HR0_24 HR1_24 K0_24 K1_24 ROr_24 RAnd_24 hb hr
      have CMi := Lib.hid hc
      have MMi := Lib.hid hh
      clear hc hh
      have VMi : Hid (decide (hasP rMi s2) = false) := by
        show _ = _
        have h1 := MMi.out s2
        have h2 := HHX.out
        have h3 := HHY.out
        have h4 := HCN.out
        simp [h1, h2, h3]
      go_wp2_with fail
      refine (has_any AMi cMi rMi s2 _ RMi_26.out (by have := can_len CMi.out; simp only [maxLen]; omega) _ VMi.out).mono ?_
      rintro e w27 ⟨rfl, hb⟩
      have hbc := hb
      have HB28 := Lib.hid (below_then HB26.out hbc (Nat.le_refl _))
      have HR0_28 := Lib.hid ((HR0_26.out.below hbc).lt)
      have HR1_28 := Lib.hid ((HR1_26.out.below hbc).lt)
      have K0_28 := Lib.hid (K0_26.out.after hbc)
      have K1_28 := Lib.hid (K1_26.out.after hbc)
      have ROr_28 := Lib.hid ((ROr_26.out.below hbc).lt)
      have RAnd_28 := Lib.hid ((RAnd_26.out.below hbc).lt)
      have RMi_28 := Lib.hid ((RMi_26.out.below hbc).lt)
      clear hbc HB26 HR0_26 HR1_26 K0_26 K1_26 ROr_26 RAnd_26 RMi_26 hb
      have eK0_ := K0_28.out.cell 0
      have lK0_ := K0_28.out.lt
      simp at eK0_
      have eK1_ := K1_28.out.cell 0
      have lK1_ := K1_28.out.lt
      simp at eK1_
      go_wp2_with fail
      clear eK0_ lK0_
      clear eK1_ lK1_
      refine (not_any A0 c0 l0 _ HR0_28.out (by omega)).mono ?_
      rintro e w29 ⟨ANo, cNo, rNo, rfl, hc, hh, hr, hb⟩
      have hbc := hb
      have HB30 := Lib.hid (below_then HB28.out hbc (Nat.le_refl _))
      have HR0_30 := Lib.hid ((HR0_28.out.below hbc).lt)
      have HR1_30 := Lib.hid ((HR1_28.out.below hbc).lt)
      have K0_30 := Lib.hid (K0_28.out.after hbc)
      have K1_30 := Lib.hid (K1_28.out.after hbc)
      have ROr_30 := Lib.hid ((ROr_28.out.below hbc).lt)
      have RAnd_30 := Lib.hid ((RAnd_28.out.below hbc).lt)
      have RMi_30 := Lib.hid ((RMi_28.out.below hbc).lt)
      have RNo_30 := Lib.hid (hr)
      clear hbc HB28 HR0_28 HR1_28 K0_28 K1_28 ROr_28 RAnd_28 RMi_28 hb hr
      have CNo := Lib.hid hc
      have MNo := Lib.hid hh
      clear hc hh
      have VNo : Hid (decide (hasP rNo s2) = false) := by
        show _ = _
        have h1 := MNo.out s2
        have h2 := HHX.out
        have h3 := HHY.out
        have h4 := HCN.out
        simp [h1, h2, h4]
      go_wp2_with fail
      refine (has_any ANo cNo rNo s2 _ RNo_30.out (by have := can_len CNo.out; simp only [maxLen]; omega) _ VNo.out).mono ?_
      rintro e w31 ⟨rfl, hb⟩
      have hbc := hb
      have HB32 := Lib.hid (below_then HB30.out hbc (Nat.le_refl _))
      have HR0_32 := Lib.hid ((HR0_30.out.below hbc).lt)
      have HR1_32 := Lib.hid ((HR1_30.out.below hbc).lt)
      have K0_32 := Lib.hid (K0_30.out.after hbc)
      have K1_32 := Lib.hid (K1_30.out.after hbc)
      have ROr_32 := Lib.hid ((ROr_30.out.below hbc).lt)
      have RAnd_32 := Lib.hid ((RAnd_30.out.below hbc).lt)
      have RMi_32 := Lib.hid ((RMi_30.out.below hbc).lt)
      have RNo_32 := Lib.hid ((RNo_30.out.below hbc).lt)
      clear hbc HB30 HR0_30 HR1_30 K0_30 K1_30 ROr_30 RAnd_30 RMi_30 RNo_30 hb
      go_wp2_with fail
      refine (alive_any _ (HD.out.below HB32.out) (HM.out.below HB32.out)).mono ?_
      rintro e w33 ⟨rfl, hb⟩
      have hbc := hb
      have HB34 := Lib.hid (below_then HB32.out hbc (Nat.le_refl _))
      have HR0_34 := Lib.hid ((HR0_32.out.below hbc).lt)
      have HR1_34 := Lib.hid ((HR1_32.out.below hbc).lt)
      have K0_34 := Lib.hid (K0_32.out.after hbc)
      have K1_34 := Lib.hid (K1_32.out.after hbc)
      have ROr_34 := Lib.hid ((ROr_32.out.below hbc).lt)
      have RAnd_34 := Lib.hid ((RAnd_32.out.below hbc).lt)
      have RMi_34 := Lib.hid ((RMi_32.out.below hbc).lt)
      have RNo_34 := Lib.hid ((RNo_32.out.below hbc).lt)
      clear hbc HB32 HR0_32 HR1_32 K0_32 K1_32 ROr_32 RAnd_32 RMi_32 RNo_32 hb
      go_wp2
      go_ret
      exact ⟨rfl, HB34.out⟩
    · have hc1 : 0 ≤ s2 := hcc.1
      have hc2 : 1114111 < s2 := hcc.2
      have hcn : ¬ codeP s2 := fun h => by have := h.2; omega
      have hx : ¬ hasP l0 s2 := fun h => hcn h.1
      have hy : ¬ hasP l1 s2 := fun h => hcn h.1
      have HX : Hid (decide (hasP l0 s2) = false) := by show _ = _; simp [hx]
      have HY : Hid (decide (hasP l1 s2) = false) := by show _ = _; simp [hy]
      have HCN := Lib.hid hcn
      have HHX := Lib.hid hx
      have HHY := Lib.hid hy
      clear hcn hx hy hcc
      go_enter Tryd.func3, Tryd.ntmps3
      go_wp2_with fail
      obtain ⟨n35, hv, hbb, hk0, hk1⟩ : ∃ v, v = ((w.alloc (.cells #[.slice A0 l0.length c0] 24)).alloc (.cells #[.slice A1 l1.length c1] 24)) ∧ Below w.heap.size w v ∧ Blk v (w.heap.size) 24 #[.slice A0 l0.length c0] ∧ Blk v (w.heap.size + 1) 24 #[.slice A1 l1.length c1] :=
        ⟨_, rfl, ((Below.refl _ _).alloc (Nat.le_refl _) _).alloc (by simp; try omega) _, (Blk.at_new (by simp; try omega)).alloc _, Blk.at_new (by simp; try omega)⟩
      rw [← hv]
      clear hv
      obtain ⟨b1, ha⟩ : ∃ a, a = w.heap.size + 1 := ⟨_, rfl⟩
      rw [← ha] at hk1 ⊢
      clear ha
      obtain ⟨b0, ha⟩ : ∃ a, a = w.heap.size := ⟨_, rfl⟩
      rw [← ha] at hk0 ⊢
      clear ha
      have hbc := hbb
      have HB36 := Lib.hid (below_then HB0.out hbc (Nat.le_refl _))
      have HR0_36 := Lib.hid ((HR0_0.out.below hbc).lt)
      have HR1_36 := Lib.hid ((HR1_0.out.below hbc).lt)
      have K0_36 := Lib.hid (hk0)
      have K1_36 := Lib.hid (hk1)
      clear hbc HB0 HR0_0 HR1_0 hbb hk0 hk1
      refine (small2_any A0 A1 _ _ c0 c1 _ _ HS.out).mono ?_
      rintro e w37 ⟨rfl, hb⟩
      have hbc := hb
      have HB38 := Lib.hid (below_then HB36.out hbc (Nat.le_refl _))
      have HR0_38 := Lib.hid ((HR0_36.out.below hbc).lt)
      have HR1_38 := Lib.hid ((HR1_36.out.below hbc).lt)
      have K0_38 := Lib.hid (K0_36.out.after hbc)
      have K1_38 := Lib.hid (K1_36.out.after hbc)
      clear hbc HB36 HR0_36 HR1_36 K0_36 K1_36 hb
      go_wp2_with fail
      refine wp_region_tree (fun w' => Below w.heap.size w w' ∧ Blk w' b0 24 #[.slice A0 l0.length c0] ∧ Blk w' b1 24 #[.slice A1 l1.length c1]) (.float 0 (.float 1 (.float 3 (.float 4 (.float 6 (.float 7 (.one 2 (.one 5 (.float 8 (.float 9 (.float 10 (.float 11 (.float 12 (.float 13 (.float 14 .done))))))))))))))) (by kernel_rfl) (by kernel_rfl) (fun _ _ d _ _ h => by cases d <;> exact h) ⟨HB38.out.drew, K0_38.out.drew, K1_38.out.drew⟩ ?_
      obtain ⟨d39, hdr, hbd⟩ : ∃ d, d = w37.drew ∧ Below w37.heap.size w37 d := ⟨_, rfl, (Below.refl _ _).drew⟩
      rw [← hdr]
      clear hdr
      have hbc := hbd
      have HB40 := Lib.hid (below_then HB38.out hbc (Nat.le_refl _))
      have HR0_40 := Lib.hid ((HR0_38.out.below hbc).lt)
      have HR1_40 := Lib.hid ((HR1_38.out.below hbc).lt)
      have K0_40 := Lib.hid (K0_38.out.after hbc)
      have K1_40 := Lib.hid (K1_38.out.after hbc)
      clear hbc HB38 HR0_38 HR1_38 K0_38 K1_38 hbd
      repeat (first
        | (refine wpTr_fskip (by simp only [List.getElem?_toArray, List.getElem?_cons_zero, List.getElem?_cons_succ]; rfl) (by rfl) ?_
           simp only [Act.put, List.setIfInBounds_toArray, List.set_cons_zero, List.set_cons_succ])
        | (refine wpTr_float (v := ?_) (by simp only [List.getElem?_toArray, List.getElem?_cons_zero, List.getElem?_cons_succ]; rfl) (by rfl) (fun w' hS => ?_) ?_
           rotate_left
           (obtain ⟨hSb, hS0, hS1⟩ := hS; have eS0 := hS0.cell 0; have lS0 := hS0.lt; simp at eS0; have eS1 := hS1.cell 0; have lS1 := hS1.lt; simp at eS1; go_simp; first | done | rfl)
           simp only [Act.put, List.setIfInBounds_toArray, List.set_cons_zero, List.set_cons_succ]))
      refine wpTr_one ?_
      refine stepTr_K (by simp only [List.getElem?_toArray, List.getElem?_cons_zero, List.getElem?_cons_succ]; rfl) (by rfl) (fun K hK => ?_)
      go_simp
      refine (has_any A0 c0 l0 s2 _ HR0_40.out (by simp only [maxLen]; omega) _ HX.out).mono ?_
      rintro e w41 ⟨rfl, hb⟩
      have hbc := hb
      have HB42 := Lib.hid (below_then HB40.out hbc (Nat.le_refl _))
      have HR0_42 := Lib.hid ((HR0_40.out.below hbc).lt)
      have HR1_42 := Lib.hid ((HR1_40.out.below hbc).lt)
      have K0_42 := Lib.hid (K0_40.out.after hbc)
      have K1_42 := Lib.hid (K1_40.out.after hbc)
      clear hbc HB40 HR0_40 HR1_40 K0_40 K1_40 hb
      refine hK.out _ _ ⟨HB42.out, K0_42.out, K1_42.out⟩ ?_
      clear hK K
      try simp only [Act.put, List.setIfInBounds_toArray, List.set_cons_zero, List.set_cons_succ]
      refine wpTr_one ?_
      refine stepTr_K (by simp only [List.getElem?_toArray, List.getElem?_cons_zero, List.getElem?_cons_succ]; rfl) (by rfl) (fun K hK => ?_)
      go_simp
      refine (has_any A1 c1 l1 s2 _ HR1_42.out (by simp only [maxLen]; omega) _ HY.out).mono ?_
      rintro e w43 ⟨rfl, hb⟩
      have hbc := hb
      have HB44 := Lib.hid (below_then HB42.out hbc (Nat.le_refl _))
      have HR0_44 := Lib.hid ((HR0_42.out.below hbc).lt)
      have HR1_44 := Lib.hid ((HR1_42.out.below hbc).lt)
      have K0_44 := Lib.hid (K0_42.out.after hbc)
      have K1_44 := Lib.hid (K1_42.out.after hbc)
      clear hbc HB42 HR0_42 HR1_42 K0_42 K1_42 hb
      refine hK.out _ _ ⟨HB44.out, K0_44.out, K1_44.out⟩ ?_
      clear hK K
      try simp only [Act.put, List.setIfInBounds_toArray, List.set_cons_zero, List.set_cons_succ]
      repeat (first
        | (refine wpTr_fskip (by simp only [List.getElem?_toArray, List.getElem?_cons_zero, List.getElem?_cons_succ]; rfl) (by rfl) ?_
           simp only [Act.put, List.setIfInBounds_toArray, List.set_cons_zero, List.set_cons_succ])
        | (refine wpTr_float (v := ?_) (by simp only [List.getElem?_toArray, List.getElem?_cons_zero, List.getElem?_cons_succ]; rfl) (by rfl) (fun w' hS => ?_) ?_
           rotate_left
           (obtain ⟨hSb, hS0, hS1⟩ := hS; have eS0 := hS0.cell 0; have lS0 := hS0.lt; simp at eS0; have eS1 := hS1.cell 0; have lS1 := hS1.lt; simp at eS1; go_simp; first | done | rfl)
           simp only [Act.put, List.setIfInBounds_toArray, List.set_cons_zero, List.set_cons_succ]))
      refine wpTr_done ?_
      have eK0_ := K0_44.out.cell 0
      have lK0_ := K0_44.out.lt
      simp at eK0_
      have eK1_ := K1_44.out.cell 0
      have lK1_ := K1_44.out.lt
      simp at eK1_
      go_wp2_with fail
      clear eK0_ lK0_
      clear eK1_ lK1_
      refine (or_any A0 A1 c0 c1 l0 l1 _ HR0_44.out HR1_44.out (by omega) (by omega)).mono ?_
      rintro e w45 ⟨AOr, cOr, rOr, rfl, hc, hh, hr, hb⟩
      have hbc := hb
      have HB46 := Lib.hid (below_then HB44.out hbc (Nat.le_refl _))
      have HR0_46 := Lib.hid ((HR0_44.out.below hbc).lt)
      have HR1_46 := Lib.hid ((HR1_44.out.below hbc).lt)
      have K0_46 := Lib.hid (K0_44.out.after hbc)
      have K1_46 := Lib.hid (K1_44.out.after hbc)
      have ROr_46 := Lib.hid (hr)
      clear hbc HB44 HR0_44 HR1_44 K0_44 K1_44 hb hr
      have COr := Lib.hid hc
      have MOr := Lib.hid hh
      clear hc hh
      have VOr : Hid (decide (hasP rOr s2) = false) := by
        show _ = _
        have h1 := MOr.out s2
        have h2 := HHX.out
        have h3 := HHY.out
        have h4 := HCN.out
        simp [h1, h2, h3]
      go_wp2_with fail
      refine (has_any AOr cOr rOr s2 _ ROr_46.out (by have := can_len COr.out; simp only [maxLen]; omega) _ VOr.out).mono ?_
      rintro e w47 ⟨rfl, hb⟩
      have hbc := hb
      have HB48 := Lib.hid (below_then HB46.out hbc (Nat.le_refl _))
      have HR0_48 := Lib.hid ((HR0_46.out.below hbc).lt)
      have HR1_48 := Lib.hid ((HR1_46.out.below hbc).lt)
      have K0_48 := Lib.hid (K0_46.out.after hbc)
      have K1_48 := Lib.hid (K1_46.out.after hbc)
      have ROr_48 := Lib.hid ((ROr_46.out.below hbc).lt)
      clear hbc HB46 HR0_46 HR1_46 K0_46 K1_46 ROr_46 hb
      have eK0_ := K0_48.out.cell 0
      have lK0_ := K0_48.out.lt
      simp at eK0_
      have eK1_ := K1_48.out.cell 0
      have lK1_ := K1_48.out.lt
      simp at eK1_
      go_wp2_with fail
      clear eK0_ lK0_
      clear eK1_ lK1_
      refine (and_any A0 A1 c0 c1 l0 l1 _ HR0_48.out HR1_48.out (by omega) (by omega)).mono ?_
      rintro e w49 ⟨AAnd, cAnd, rAnd, rfl, hc, hh, hr, hb⟩
      have hbc := hb
      have HB50 := Lib.hid (below_then HB48.out hbc (Nat.le_refl _))
      have HR0_50 := Lib.hid ((HR0_48.out.below hbc).lt)
      have HR1_50 := Lib.hid ((HR1_48.out.below hbc).lt)
      have K0_50 := Lib.hid (K0_48.out.after hbc)
      have K1_50 := Lib.hid (K1_48.out.after hbc)
      have ROr_50 := Lib.hid ((ROr_48.out.below hbc).lt)
      have RAnd_50 := Lib.hid (hr)
      clear hbc HB48 HR0_48 HR1_48 K0_48 K1_48 ROr_48 hb hr
      have CAnd := Lib.hid hc
      have MAnd := Lib.hid hh
      clear hc hh
      have VAnd : Hid (decide (hasP rAnd s2) = false) := by
        show _ = _
        have h1 := MAnd.out s2
        have h2 := HHX.out
        have h3 := HHY.out
        have h4 := HCN.out
        simp [h1, h2, h3]
      go_wp2_with fail
      refine (has_any AAnd cAnd rAnd s2 _ RAnd_50.out (by have := can_len CAnd.out; simp only [maxLen]; omega) _ VAnd.out).mono ?_
      rintro e w51 ⟨rfl, hb⟩
      have hbc := hb
      have HB52 := Lib.hid (below_then HB50.out hbc (Nat.le_refl _))
      have HR0_52 := Lib.hid ((HR0_50.out.below hbc).lt)
      have HR1_52 := Lib.hid ((HR1_50.out.below hbc).lt)
      have K0_52 := Lib.hid (K0_50.out.after hbc)
      have K1_52 := Lib.hid (K1_50.out.after hbc)
      have ROr_52 := Lib.hid ((ROr_50.out.below hbc).lt)
      have RAnd_52 := Lib.hid ((RAnd_50.out.below hbc).lt)
      clear hbc HB50 HR0_50 HR1_50 K0_50 K1_50 ROr_50 RAnd_50 hb
      have eK0_ := K0_52.out.cell 0
      have lK0_ := K0_52.out.lt
      simp at eK0_
      have eK1_ := K1_52.out.cell 0
      have lK1_ := K1_52.out.lt
      simp at eK1_
      go_wp2_with fail
      clear eK0_ lK0_
      clear eK1_ lK1_
      refine (minus_any A0 A1 c0 c1 l0 l1 _ HR0_52.out HR1_52.out (by omega) (by omega)).mono ?_
      rintro e w53 ⟨AMi, cMi, rMi, rfl, hc, hh, hr, hb⟩
      have hbc := hb
      have HB54 := Lib.hid (below_then HB52.out hbc (Nat.le_refl _))
      have HR0_54 := Lib.hid ((HR0_52.out.below hbc).lt)
      have HR1_54 := Lib.hid ((HR1_52.out.below hbc).lt)
      have K0_54 := Lib.hid (K0_52.out.after hbc)
      have K1_54 := Lib.hid (K1_52.out.after hbc)
      have ROr_54 := Lib.hid ((ROr_52.out.below hbc).lt)
      have RAnd_54 := Lib.hid ((RAnd_52.out.below hbc).lt)
      have RMi_54 := Lib.hid (hr)
      clear hbc HB52 HR0_52 HR1_52 K0_52 K1_52 ROr_52 RAnd_52 hb hr
      have CMi := Lib.hid hc
      have MMi := Lib.hid hh
      clear hc hh
      have VMi : Hid (decide (hasP rMi s2) = false) := by
        show _ = _
        have h1 := MMi.out s2
        have h2 := HHX.out
        have h3 := HHY.out
        have h4 := HCN.out
        simp [h1, h2, h3]
      go_wp2_with fail
      refine (has_any AMi cMi rMi s2 _ RMi_54.out (by have := can_len CMi.out; simp only [maxLen]; omega) _ VMi.out).mono ?_
      rintro e w55 ⟨rfl, hb⟩
      have hbc := hb
      have HB56 := Lib.hid (below_then HB54.out hbc (Nat.le_refl _))
      have HR0_56 := Lib.hid ((HR0_54.out.below hbc).lt)
      have HR1_56 := Lib.hid ((HR1_54.out.below hbc).lt)
      have K0_56 := Lib.hid (K0_54.out.after hbc)
      have K1_56 := Lib.hid (K1_54.out.after hbc)
      have ROr_56 := Lib.hid ((ROr_54.out.below hbc).lt)
      have RAnd_56 := Lib.hid ((RAnd_54.out.below hbc).lt)
      have RMi_56 := Lib.hid ((RMi_54.out.below hbc).lt)
      clear hbc HB54 HR0_54 HR1_54 K0_54 K1_54 ROr_54 RAnd_54 RMi_54 hb
      have eK0_ := K0_56.out.cell 0
      have lK0_ := K0_56.out.lt
      simp at eK0_
      have eK1_ := K1_56.out.cell 0
      have lK1_ := K1_56.out.lt
      simp at eK1_
      go_wp2_with fail
      clear eK0_ lK0_
      clear eK1_ lK1_
      refine (not_any A0 c0 l0 _ HR0_56.out (by omega)).mono ?_
      rintro e w57 ⟨ANo, cNo, rNo, rfl, hc, hh, hr, hb⟩
      have hbc := hb
      have HB58 := Lib.hid (below_then HB56.out hbc (Nat.le_refl _))
      have HR0_58 := Lib.hid ((HR0_56.out.below hbc).lt)
      have HR1_58 := Lib.hid ((HR1_56.out.below hbc).lt)
      have K0_58 := Lib.hid (K0_56.out.after hbc)
      have K1_58 := Lib.hid (K1_56.out.after hbc)
      have ROr_58 := Lib.hid ((ROr_56.out.below hbc).lt)
      have RAnd_58 := Lib.hid ((RAnd_56.out.below hbc).lt)
      have RMi_58 := Lib.hid ((RMi_56.out.below hbc).lt)
      have RNo_58 := Lib.hid (hr)
      clear hbc HB56 HR0_56 HR1_56 K0_56 K1_56 ROr_56 RAnd_56 RMi_56 hb hr
      have CNo := Lib.hid hc
      have MNo := Lib.hid hh
      clear hc hh
      have VNo : Hid (decide (hasP rNo s2) = false) := by
        show _ = _
        have h1 := MNo.out s2
        have h2 := HHX.out
        have h3 := HHY.out
        have h4 := HCN.out
        simp [h1, h2, h4]
      go_wp2_with fail
      refine (has_any ANo cNo rNo s2 _ RNo_58.out (by have := can_len CNo.out; simp only [maxLen]; omega) _ VNo.out).mono ?_
      rintro e w59 ⟨rfl, hb⟩
      have hbc := hb
      have HB60 := Lib.hid (below_then HB58.out hbc (Nat.le_refl _))
      have HR0_60 := Lib.hid ((HR0_58.out.below hbc).lt)
      have HR1_60 := Lib.hid ((HR1_58.out.below hbc).lt)
      have K0_60 := Lib.hid (K0_58.out.after hbc)
      have K1_60 := Lib.hid (K1_58.out.after hbc)
      have ROr_60 := Lib.hid ((ROr_58.out.below hbc).lt)
      have RAnd_60 := Lib.hid ((RAnd_58.out.below hbc).lt)
      have RMi_60 := Lib.hid ((RMi_58.out.below hbc).lt)
      have RNo_60 := Lib.hid ((RNo_58.out.below hbc).lt)
      clear hbc HB58 HR0_58 HR1_58 K0_58 K1_58 ROr_58 RAnd_58 RMi_58 RNo_58 hb
      go_wp2_with fail
      refine (alive_any _ (HD.out.below HB60.out) (HM.out.below HB60.out)).mono ?_
      rintro e w61 ⟨rfl, hb⟩
      have hbc := hb
      have HB62 := Lib.hid (below_then HB60.out hbc (Nat.le_refl _))
      have HR0_62 := Lib.hid ((HR0_60.out.below hbc).lt)
      have HR1_62 := Lib.hid ((HR1_60.out.below hbc).lt)
      have K0_62 := Lib.hid (K0_60.out.after hbc)
      have K1_62 := Lib.hid (K1_60.out.after hbc)
      have ROr_62 := Lib.hid ((ROr_60.out.below hbc).lt)
      have RAnd_62 := Lib.hid ((RAnd_60.out.below hbc).lt)
      have RMi_62 := Lib.hid ((RMi_60.out.below hbc).lt)
      have RNo_62 := Lib.hid ((RNo_60.out.below hbc).lt)
      clear hbc HB60 HR0_60 HR1_60 K0_60 K1_60 ROr_60 RAnd_60 RMi_60 RNo_60 hb
      go_wp2
      go_ret
      exact ⟨rfl, HB62.out⟩
    · by_cases hx : hasP l0 s2
      · by_cases hy : hasP l1 s2
        · have hc1 : 0 ≤ s2 := hcc.1
          have hc2 : s2 ≤ 1114111 := hcc.2
          have hcn : codeP s2 := hcc
          have HX : Hid (decide (hasP l0 s2) = true) := by show _ = _; simp [hx]
          have HY : Hid (decide (hasP l1 s2) = true) := by show _ = _; simp [hy]
          have HCN := Lib.hid hcn
          have HHX := Lib.hid hx
          have HHY := Lib.hid hy
          clear hcn hx hy hcc
          go_enter Tryd.func3, Tryd.ntmps3
          go_wp2_with fail
          obtain ⟨n63, hv, hbb, hk0, hk1⟩ : ∃ v, v = ((w.alloc (.cells #[.slice A0 l0.length c0] 24)).alloc (.cells #[.slice A1 l1.length c1] 24)) ∧ Below w.heap.size w v ∧ Blk v (w.heap.size) 24 #[.slice A0 l0.length c0] ∧ Blk v (w.heap.size + 1) 24 #[.slice A1 l1.length c1] :=
            ⟨_, rfl, ((Below.refl _ _).alloc (Nat.le_refl _) _).alloc (by simp; try omega) _, (Blk.at_new (by simp; try omega)).alloc _, Blk.at_new (by simp; try omega)⟩
          rw [← hv]
          clear hv
          obtain ⟨b1, ha⟩ : ∃ a, a = w.heap.size + 1 := ⟨_, rfl⟩
          rw [← ha] at hk1 ⊢
          clear ha
          obtain ⟨b0, ha⟩ : ∃ a, a = w.heap.size := ⟨_, rfl⟩
          rw [← ha] at hk0 ⊢
          clear ha
          have hbc := hbb
          have HB64 := Lib.hid (below_then HB0.out hbc (Nat.le_refl _))
          have HR0_64 := Lib.hid ((HR0_0.out.below hbc).lt)
          have HR1_64 := Lib.hid ((HR1_0.out.below hbc).lt)
          have K0_64 := Lib.hid (hk0)
          have K1_64 := Lib.hid (hk1)
          clear hbc HB0 HR0_0 HR1_0 hbb hk0 hk1
          refine (small2_any A0 A1 _ _ c0 c1 _ _ HS.out).mono ?_
          rintro e w65 ⟨rfl, hb⟩
          have hbc := hb
          have HB66 := Lib.hid (below_then HB64.out hbc (Nat.le_refl _))
          have HR0_66 := Lib.hid ((HR0_64.out.below hbc).lt)
          have HR1_66 := Lib.hid ((HR1_64.out.below hbc).lt)
          have K0_66 := Lib.hid (K0_64.out.after hbc)
          have K1_66 := Lib.hid (K1_64.out.after hbc)
          clear hbc HB64 HR0_64 HR1_64 K0_64 K1_64 hb
          go_wp2_with fail
          refine wp_region_tree (fun w' => Below w.heap.size w w' ∧ Blk w' b0 24 #[.slice A0 l0.length c0] ∧ Blk w' b1 24 #[.slice A1 l1.length c1]) (.float 0 (.float 1 (.float 3 (.float 4 (.float 6 (.float 7 (.one 2 (.one 5 (.float 8 (.float 9 (.float 10 (.float 11 (.float 12 (.float 13 (.float 14 .done))))))))))))))) (by kernel_rfl) (by kernel_rfl) (fun _ _ d _ _ h => by cases d <;> exact h) ⟨HB66.out.drew, K0_66.out.drew, K1_66.out.drew⟩ ?_
          obtain ⟨d67, hdr, hbd⟩ : ∃ d, d = w65.drew ∧ Below w65.heap.size w65 d := ⟨_, rfl, (Below.refl _ _).drew⟩
          rw [← hdr]
          clear hdr
          have hbc := hbd
          have HB68 := Lib.hid (below_then HB66.out hbc (Nat.le_refl _))
          have HR0_68 := Lib.hid ((HR0_66.out.below hbc).lt)
          have HR1_68 := Lib.hid ((HR1_66.out.below hbc).lt)
          have K0_68 := Lib.hid (K0_66.out.after hbc)
          have K1_68 := Lib.hid (K1_66.out.after hbc)
          clear hbc HB66 HR0_66 HR1_66 K0_66 K1_66 hbd
          repeat (first
            | (refine wpTr_fskip (by simp only [List.getElem?_toArray, List.getElem?_cons_zero, List.getElem?_cons_succ]; rfl) (by rfl) ?_
               simp only [Act.put, List.setIfInBounds_toArray, List.set_cons_zero, List.set_cons_succ])
            | (refine wpTr_float (v := ?_) (by simp only [List.getElem?_toArray, List.getElem?_cons_zero, List.getElem?_cons_succ]; rfl) (by rfl) (fun w' hS => ?_) ?_
               rotate_left
               (obtain ⟨hSb, hS0, hS1⟩ := hS; have eS0 := hS0.cell 0; have lS0 := hS0.lt; simp at eS0; have eS1 := hS1.cell 0; have lS1 := hS1.lt; simp at eS1; go_simp; first | done | rfl)
               simp only [Act.put, List.setIfInBounds_toArray, List.set_cons_zero, List.set_cons_succ]))
          refine wpTr_one ?_
          refine stepTr_K (by simp only [List.getElem?_toArray, List.getElem?_cons_zero, List.getElem?_cons_succ]; rfl) (by rfl) (fun K hK => ?_)
          go_simp
          refine (has_any A0 c0 l0 s2 _ HR0_68.out (by simp only [maxLen]; omega) _ HX.out).mono ?_
          rintro e w69 ⟨rfl, hb⟩
          have hbc := hb
          have HB70 := Lib.hid (below_then HB68.out hbc (Nat.le_refl _))
          have HR0_70 := Lib.hid ((HR0_68.out.below hbc).lt)
          have HR1_70 := Lib.hid ((HR1_68.out.below hbc).lt)
          have K0_70 := Lib.hid (K0_68.out.after hbc)
          have K1_70 := Lib.hid (K1_68.out.after hbc)
          clear hbc HB68 HR0_68 HR1_68 K0_68 K1_68 hb
          refine hK.out _ _ ⟨HB70.out, K0_70.out, K1_70.out⟩ ?_
          clear hK K
          try simp only [Act.put, List.setIfInBounds_toArray, List.set_cons_zero, List.set_cons_succ]
          refine wpTr_one ?_
          refine stepTr_K (by simp only [List.getElem?_toArray, List.getElem?_cons_zero, List.getElem?_cons_succ]; rfl) (by rfl) (fun K hK => ?_)
          go_simp
          refine (has_any A1 c1 l1 s2 _ HR1_70.out (by simp only [maxLen]; omega) _ HY.out).mono ?_
          rintro e w71 ⟨rfl, hb⟩
          have hbc := hb
          have HB72 := Lib.hid (below_then HB70.out hbc (Nat.le_refl _))
          have HR0_72 := Lib.hid ((HR0_70.out.below hbc).lt)
          have HR1_72 := Lib.hid ((HR1_70.out.below hbc).lt)
          have K0_72 := Lib.hid (K0_70.out.after hbc)
          have K1_72 := Lib.hid (K1_70.out.after hbc)
          clear hbc HB70 HR0_70 HR1_70 K0_70 K1_70 hb
          refine hK.out _ _ ⟨HB72.out, K0_72.out, K1_72.out⟩ ?_
          clear hK K
          try simp only [Act.put, List.setIfInBounds_toArray, List.set_cons_zero, List.set_cons_succ]
          repeat (first
            | (refine wpTr_fskip (by simp only [List.getElem?_toArray, List.getElem?_cons_zero, List.getElem?_cons_succ]; rfl) (by rfl) ?_
               simp only [Act.put, List.setIfInBounds_toArray, List.set_cons_zero, List.set_cons_succ])
            | (refine wpTr_float (v := ?_) (by simp only [List.getElem?_toArray, List.getElem?_cons_zero, List.getElem?_cons_succ]; rfl) (by rfl) (fun w' hS => ?_) ?_
               rotate_left
               (obtain ⟨hSb, hS0, hS1⟩ := hS; have eS0 := hS0.cell 0; have lS0 := hS0.lt; simp at eS0; have eS1 := hS1.cell 0; have lS1 := hS1.lt; simp at eS1; go_simp; first | done | rfl)
               simp only [Act.put, List.setIfInBounds_toArray, List.set_cons_zero, List.set_cons_succ]))
          refine wpTr_done ?_
          have eK0_ := K0_72.out.cell 0
          have lK0_ := K0_72.out.lt
          simp at eK0_
          have eK1_ := K1_72.out.cell 0
          have lK1_ := K1_72.out.lt
          simp at eK1_
          go_wp2_with fail
          clear eK0_ lK0_
          clear eK1_ lK1_
          refine (or_any A0 A1 c0 c1 l0 l1 _ HR0_72.out HR1_72.out (by omega) (by omega)).mono ?_
          rintro e w73 ⟨AOr, cOr, rOr, rfl, hc, hh, hr, hb⟩
          have hbc := hb
          have HB74 := Lib.hid (below_then HB72.out hbc (Nat.le_refl _))
          have HR0_74 := Lib.hid ((HR0_72.out.below hbc).lt)
          have HR1_74 := Lib.hid ((HR1_72.out.below hbc).lt)
          have K0_74 := Lib.hid (K0_72.out.after hbc)
          have K1_74 := Lib.hid (K1_72.out.after hbc)
          have ROr_74 := Lib.hid (hr)
          clear hbc HB72 HR0_72 HR1_72 K0_72 K1_72 hb hr
          have COr := Lib.hid hc
          have MOr := Lib.hid hh
          clear hc hh
          have VOr : Hid (decide (hasP rOr s2) = true) := by
            show _ = _
            have h1 := MOr.out s2
            have h2 := HHX.out
            have h3 := HHY.out
            have h4 := HCN.out
            simp [h1, h2, h3]
          go_wp2_with fail
          refine (has_any AOr cOr rOr s2 _ ROr_74.out (by have := can_len COr.out; simp only [maxLen]; omega) _ VOr.out).mono ?_
          rintro e w75 ⟨rfl, hb⟩
          have hbc := hb
          have HB76 := Lib.hid (below_then HB74.out hbc (Nat.le_refl _))
          have HR0_76 := Lib.hid ((HR0_74.out.below hbc).lt)
          have HR1_76 := Lib.hid ((HR1_74.out.below hbc).lt)
          have K0_76 := Lib.hid (K0_74.out.after hbc)
          have K1_76 := Lib.hid (K1_74.out.after hbc)
          have ROr_76 := Lib.hid ((ROr_74.out.below hbc).lt)
          clear hbc HB74 HR0_74 HR1_74 K0_74 K1_74 ROr_74 hb
          have eK0_ := K0_76.out.cell 0
          have lK0_ := K0_76.out.lt
          simp at eK0_
          have eK1_ := K1_76.out.cell 0
          have lK1_ := K1_76.out.lt
          simp at eK1_
          go_wp2_with fail
          clear eK0_ lK0_
          clear eK1_ lK1_
          refine (and_any A0 A1 c0 c1 l0 l1 _ HR0_76.out HR1_76.out (by omega) (by omega)).mono ?_
          rintro e w77 ⟨AAnd, cAnd, rAnd, rfl, hc, hh, hr, hb⟩
          have hbc := hb
          have HB78 := Lib.hid (below_then HB76.out hbc (Nat.le_refl _))
          have HR0_78 := Lib.hid ((HR0_76.out.below hbc).lt)
          have HR1_78 := Lib.hid ((HR1_76.out.below hbc).lt)
          have K0_78 := Lib.hid (K0_76.out.after hbc)
          have K1_78 := Lib.hid (K1_76.out.after hbc)
          have ROr_78 := Lib.hid ((ROr_76.out.below hbc).lt)
          have RAnd_78 := Lib.hid (hr)
          clear hbc HB76 HR0_76 HR1_76 K0_76 K1_76 ROr_76 hb hr
          have CAnd := Lib.hid hc
          have MAnd := Lib.hid hh
          clear hc hh
          have VAnd : Hid (decide (hasP rAnd s2) = true) := by
            show _ = _
            have h1 := MAnd.out s2
            have h2 := HHX.out
            have h3 := HHY.out
            have h4 := HCN.out
            simp [h1, h2, h3]
          go_wp2_with fail
          refine (has_any AAnd cAnd rAnd s2 _ RAnd_78.out (by have := can_len CAnd.out; simp only [maxLen]; omega) _ VAnd.out).mono ?_
          rintro e w79 ⟨rfl, hb⟩
          have hbc := hb
          have HB80 := Lib.hid (below_then HB78.out hbc (Nat.le_refl _))
          have HR0_80 := Lib.hid ((HR0_78.out.below hbc).lt)
          have HR1_80 := Lib.hid ((HR1_78.out.below hbc).lt)
          have K0_80 := Lib.hid (K0_78.out.after hbc)
          have K1_80 := Lib.hid (K1_78.out.after hbc)
          have ROr_80 := Lib.hid ((ROr_78.out.below hbc).lt)
          have RAnd_80 := Lib.hid ((RAnd_78.out.below hbc).lt)
          clear hbc HB78 HR0_78 HR1_78 K0_78 K1_78 ROr_78 RAnd_78 hb
          have eK0_ := K0_80.out.cell 0
          have lK0_ := K0_80.out.lt
          simp at eK0_
          have eK1_ := K1_80.out.cell 0
          have lK1_ := K1_80.out.lt
          simp at eK1_
          go_wp2_with fail
          clear eK0_ lK0_
          clear eK1_ lK1_
          refine (minus_any A0 A1 c0 c1 l0 l1 _ HR0_80.out HR1_80.out (by omega) (by omega)).mono ?_
          rintro e w81 ⟨AMi, cMi, rMi, rfl, hc, hh, hr, hb⟩
          have hbc := hb
          have HB82 := Lib.hid (below_then HB80.out hbc (Nat.le_refl _))
          have HR0_82 := Lib.hid ((HR0_80.out.below hbc).lt)
          have HR1_82 := Lib.hid ((HR1_80.out.below hbc).lt)
          have K0_82 := Lib.hid (K0_80.out.after hbc)
          have K1_82 := Lib.hid (K1_80.out.after hbc)
          have ROr_82 := Lib.hid ((ROr_80.out.below hbc).lt)
          have RAnd_82 := Lib.hid ((RAnd_80.out.below hbc).lt)
          have RMi_82 := Lib.hid (hr)
          clear hbc HB80 HR0_80 HR1_80 K0_80 K1_80 ROr_80 RAnd_80 hb hr
          have CMi := Lib.hid hc
          have MMi := Lib.hid hh
          clear hc hh
          have VMi : Hid (decide (hasP rMi s2) = false) := by
            show _ = _
            have h1 := MMi.out s2
            have h2 := HHX.out
            have h3 := HHY.out
            have h4 := HCN.out
            simp [h1, h2, h3]
          go_wp2_with fail
          refine (has_any AMi cMi rMi s2 _ RMi_82.out (by have := can_len CMi.out; simp only [maxLen]; omega) _ VMi.out).mono ?_
          rintro e w83 ⟨rfl, hb⟩
          have hbc := hb
          have HB84 := Lib.hid (below_then HB82.out hbc (Nat.le_refl _))
          have HR0_84 := Lib.hid ((HR0_82.out.below hbc).lt)
          have HR1_84 := Lib.hid ((HR1_82.out.below hbc).lt)
          have K0_84 := Lib.hid (K0_82.out.after hbc)
          have K1_84 := Lib.hid (K1_82.out.after hbc)
          have ROr_84 := Lib.hid ((ROr_82.out.below hbc).lt)
          have RAnd_84 := Lib.hid ((RAnd_82.out.below hbc).lt)
          have RMi_84 := Lib.hid ((RMi_82.out.below hbc).lt)
          clear hbc HB82 HR0_82 HR1_82 K0_82 K1_82 ROr_82 RAnd_82 RMi_82 hb
          have eK0_ := K0_84.out.cell 0
          have lK0_ := K0_84.out.lt
          simp at eK0_
          have eK1_ := K1_84.out.cell 0
          have lK1_ := K1_84.out.lt
          simp at eK1_
          go_wp2_with fail
          clear eK0_ lK0_
          clear eK1_ lK1_
          refine (not_any A0 c0 l0 _ HR0_84.out (by omega)).mono ?_
          rintro e w85 ⟨ANo, cNo, rNo, rfl, hc, hh, hr, hb⟩
          have hbc := hb
          have HB86 := Lib.hid (below_then HB84.out hbc (Nat.le_refl _))
          have HR0_86 := Lib.hid ((HR0_84.out.below hbc).lt)
          have HR1_86 := Lib.hid ((HR1_84.out.below hbc).lt)
          have K0_86 := Lib.hid (K0_84.out.after hbc)
          have K1_86 := Lib.hid (K1_84.out.after hbc)
          have ROr_86 := Lib.hid ((ROr_84.out.below hbc).lt)
          have RAnd_86 := Lib.hid ((RAnd_84.out.below hbc).lt)
          have RMi_86 := Lib.hid ((RMi_84.out.below hbc).lt)
          have RNo_86 := Lib.hid (hr)
          clear hbc HB84 HR0_84 HR1_84 K0_84 K1_84 ROr_84 RAnd_84 RMi_84 hb hr
          have CNo := Lib.hid hc
          have MNo := Lib.hid hh
          clear hc hh
          have VNo : Hid (decide (hasP rNo s2) = false) := by
            show _ = _
            have h1 := MNo.out s2
            have h2 := HHX.out
            have h3 := HHY.out
            have h4 := HCN.out
            simp [h1, h2, h4]
          go_wp2_with fail
          refine (has_any ANo cNo rNo s2 _ RNo_86.out (by have := can_len CNo.out; simp only [maxLen]; omega) _ VNo.out).mono ?_
          rintro e w87 ⟨rfl, hb⟩
          have hbc := hb
          have HB88 := Lib.hid (below_then HB86.out hbc (Nat.le_refl _))
          have HR0_88 := Lib.hid ((HR0_86.out.below hbc).lt)
          have HR1_88 := Lib.hid ((HR1_86.out.below hbc).lt)
          have K0_88 := Lib.hid (K0_86.out.after hbc)
          have K1_88 := Lib.hid (K1_86.out.after hbc)
          have ROr_88 := Lib.hid ((ROr_86.out.below hbc).lt)
          have RAnd_88 := Lib.hid ((RAnd_86.out.below hbc).lt)
          have RMi_88 := Lib.hid ((RMi_86.out.below hbc).lt)
          have RNo_88 := Lib.hid ((RNo_86.out.below hbc).lt)
          clear hbc HB86 HR0_86 HR1_86 K0_86 K1_86 ROr_86 RAnd_86 RMi_86 RNo_86 hb
          go_wp2_with fail
          refine (alive_any _ (HD.out.below HB88.out) (HM.out.below HB88.out)).mono ?_
          rintro e w89 ⟨rfl, hb⟩
          have hbc := hb
          have HB90 := Lib.hid (below_then HB88.out hbc (Nat.le_refl _))
          have HR0_90 := Lib.hid ((HR0_88.out.below hbc).lt)
          have HR1_90 := Lib.hid ((HR1_88.out.below hbc).lt)
          have K0_90 := Lib.hid (K0_88.out.after hbc)
          have K1_90 := Lib.hid (K1_88.out.after hbc)
          have ROr_90 := Lib.hid ((ROr_88.out.below hbc).lt)
          have RAnd_90 := Lib.hid ((RAnd_88.out.below hbc).lt)
          have RMi_90 := Lib.hid ((RMi_88.out.below hbc).lt)
          have RNo_90 := Lib.hid ((RNo_88.out.below hbc).lt)
          clear hbc HB88 HR0_88 HR1_88 K0_88 K1_88 ROr_88 RAnd_88 RMi_88 RNo_88 hb
          go_wp2
          go_ret
          exact ⟨rfl, HB90.out⟩
        · have hc1 : 0 ≤ s2 := hcc.1
          have hc2 : s2 ≤ 1114111 := hcc.2
          have hcn : codeP s2 := hcc
          have HX : Hid (decide (hasP l0 s2) = true) := by show _ = _; simp [hx]
          have HY : Hid (decide (hasP l1 s2) = false) := by show _ = _; simp [hy]
          have HCN := Lib.hid hcn
          have HHX := Lib.hid hx
          have HHY := Lib.hid hy
          clear hcn hx hy hcc
          go_enter Tryd.func3, Tryd.ntmps3
          go_wp2_with fail
          obtain ⟨n91, hv, hbb, hk0, hk1⟩ : ∃ v, v = ((w.alloc (.cells #[.slice A0 l0.length c0] 24)).alloc (.cells #[.slice A1 l1.length c1] 24)) ∧ Below w.heap.size w v ∧ Blk v (w.heap.size) 24 #[.slice A0 l0.length c0] ∧ Blk v (w.heap.size + 1) 24 #[.slice A1 l1.length c1] :=
            ⟨_, rfl, ((Below.refl _ _).alloc (Nat.le_refl _) _).alloc (by simp; try omega) _, (Blk.at_new (by simp; try omega)).alloc _, Blk.at_new (by simp; try omega)⟩
          rw [← hv]
          clear hv
          obtain ⟨b1, ha⟩ : ∃ a, a = w.heap.size + 1 := ⟨_, rfl⟩
          rw [← ha] at hk1 ⊢
          clear ha
          obtain ⟨b0, ha⟩ : ∃ a, a = w.heap.size := ⟨_, rfl⟩
          rw [← ha] at hk0 ⊢
          clear ha
          have hbc := hbb
          have HB92 := Lib.hid (below_then HB0.out hbc (Nat.le_refl _))
          have HR0_92 := Lib.hid ((HR0_0.out.below hbc).lt)
          have HR1_92 := Lib.hid ((HR1_0.out.below hbc).lt)
          have K0_92 := Lib.hid (hk0)
          have K1_92 := Lib.hid (hk1)
          clear hbc HB0 HR0_0 HR1_0 hbb hk0 hk1
          refine (small2_any A0 A1 _ _ c0 c1 _ _ HS.out).mono ?_
          rintro e w93 ⟨rfl, hb⟩
          have hbc := hb
          have HB94 := Lib.hid (below_then HB92.out hbc (Nat.le_refl _))
          have HR0_94 := Lib.hid ((HR0_92.out.below hbc).lt)
          have HR1_94 := Lib.hid ((HR1_92.out.below hbc).lt)
          have K0_94 := Lib.hid (K0_92.out.after hbc)
          have K1_94 := Lib.hid (K1_92.out.after hbc)
          clear hbc HB92 HR0_92 HR1_92 K0_92 K1_92 hb
          go_wp2_with fail
          refine wp_region_tree (fun w' => Below w.heap.size w w' ∧ Blk w' b0 24 #[.slice A0 l0.length c0] ∧ Blk w' b1 24 #[.slice A1 l1.length c1]) (.float 0 (.float 1 (.float 3 (.float 4 (.float 6 (.float 7 (.one 2 (.one 5 (.float 8 (.float 9 (.float 10 (.float 11 (.float 12 (.float 13 (.float 14 .done))))))))))))))) (by kernel_rfl) (by kernel_rfl) (fun _ _ d _ _ h => by cases d <;> exact h) ⟨HB94.out.drew, K0_94.out.drew, K1_94.out.drew⟩ ?_
          obtain ⟨d95, hdr, hbd⟩ : ∃ d, d = w93.drew ∧ Below w93.heap.size w93 d := ⟨_, rfl, (Below.refl _ _).drew⟩
          rw [← hdr]
          clear hdr
          have hbc := hbd
          have HB96 := Lib.hid (below_then HB94.out hbc (Nat.le_refl _))
          have HR0_96 := Lib.hid ((HR0_94.out.below hbc).lt)
          have HR1_96 := Lib.hid ((HR1_94.out.below hbc).lt)
          have K0_96 := Lib.hid (K0_94.out.after hbc)
          have K1_96 := Lib.hid (K1_94.out.after hbc)
          clear hbc HB94 HR0_94 HR1_94 K0_94 K1_94 hbd
          repeat (first
            | (refine wpTr_fskip (by simp only [List.getElem?_toArray, List.getElem?_cons_zero, List.getElem?_cons_succ]; rfl) (by rfl) ?_
               simp only [Act.put, List.setIfInBounds_toArray, List.set_cons_zero, List.set_cons_succ])
            | (refine wpTr_float (v := ?_) (by simp only [List.getElem?_toArray, List.getElem?_cons_zero, List.getElem?_cons_succ]; rfl) (by rfl) (fun w' hS => ?_) ?_
               rotate_left
               (obtain ⟨hSb, hS0, hS1⟩ := hS; have eS0 := hS0.cell 0; have lS0 := hS0.lt; simp at eS0; have eS1 := hS1.cell 0; have lS1 := hS1.lt; simp at eS1; go_simp; first | done | rfl)
               simp only [Act.put, List.setIfInBounds_toArray, List.set_cons_zero, List.set_cons_succ]))
          refine wpTr_one ?_
          refine stepTr_K (by simp only [List.getElem?_toArray, List.getElem?_cons_zero, List.getElem?_cons_succ]; rfl) (by rfl) (fun K hK => ?_)
          go_simp
          refine (has_any A0 c0 l0 s2 _ HR0_96.out (by simp only [maxLen]; omega) _ HX.out).mono ?_
          rintro e w97 ⟨rfl, hb⟩
          have hbc := hb
          have HB98 := Lib.hid (below_then HB96.out hbc (Nat.le_refl _))
          have HR0_98 := Lib.hid ((HR0_96.out.below hbc).lt)
          have HR1_98 := Lib.hid ((HR1_96.out.below hbc).lt)
          have K0_98 := Lib.hid (K0_96.out.after hbc)
          have K1_98 := Lib.hid (K1_96.out.after hbc)
          clear hbc HB96 HR0_96 HR1_96 K0_96 K1_96 hb
          refine hK.out _ _ ⟨HB98.out, K0_98.out, K1_98.out⟩ ?_
          clear hK K
          try simp only [Act.put, List.setIfInBounds_toArray, List.set_cons_zero, List.set_cons_succ]
          refine wpTr_one ?_
          refine stepTr_K (by simp only [List.getElem?_toArray, List.getElem?_cons_zero, List.getElem?_cons_succ]; rfl) (by rfl) (fun K hK => ?_)
          go_simp
          refine (has_any A1 c1 l1 s2 _ HR1_98.out (by simp only [maxLen]; omega) _ HY.out).mono ?_
          rintro e w99 ⟨rfl, hb⟩
          have hbc := hb
          have HB100 := Lib.hid (below_then HB98.out hbc (Nat.le_refl _))
          have HR0_100 := Lib.hid ((HR0_98.out.below hbc).lt)
          have HR1_100 := Lib.hid ((HR1_98.out.below hbc).lt)
          have K0_100 := Lib.hid (K0_98.out.after hbc)
          have K1_100 := Lib.hid (K1_98.out.after hbc)
          clear hbc HB98 HR0_98 HR1_98 K0_98 K1_98 hb
          refine hK.out _ _ ⟨HB100.out, K0_100.out, K1_100.out⟩ ?_
          clear hK K
          try simp only [Act.put, List.setIfInBounds_toArray, List.set_cons_zero, List.set_cons_succ]
          repeat (first
            | (refine wpTr_fskip (by simp only [List.getElem?_toArray, List.getElem?_cons_zero, List.getElem?_cons_succ]; rfl) (by rfl) ?_
               simp only [Act.put, List.setIfInBounds_toArray, List.set_cons_zero, List.set_cons_succ])
            | (refine wpTr_float (v := ?_) (by simp only [List.getElem?_toArray, List.getElem?_cons_zero, List.getElem?_cons_succ]; rfl) (by rfl) (fun w' hS => ?_) ?_
               rotate_left
               (obtain ⟨hSb, hS0, hS1⟩ := hS; have eS0 := hS0.cell 0; have lS0 := hS0.lt; simp at eS0; have eS1 := hS1.cell 0; have lS1 := hS1.lt; simp at eS1; go_simp; first | done | rfl)
               simp only [Act.put, List.setIfInBounds_toArray, List.set_cons_zero, List.set_cons_succ]))
          refine wpTr_done ?_
          have eK0_ := K0_100.out.cell 0
          have lK0_ := K0_100.out.lt
          simp at eK0_
          have eK1_ := K1_100.out.cell 0
          have lK1_ := K1_100.out.lt
          simp at eK1_
          go_wp2_with fail
          clear eK0_ lK0_
          clear eK1_ lK1_
          refine (or_any A0 A1 c0 c1 l0 l1 _ HR0_100.out HR1_100.out (by omega) (by omega)).mono ?_
          rintro e w101 ⟨AOr, cOr, rOr, rfl, hc, hh, hr, hb⟩
          have hbc := hb
          have HB102 := Lib.hid (below_then HB100.out hbc (Nat.le_refl _))
          have HR0_102 := Lib.hid ((HR0_100.out.below hbc).lt)
          have HR1_102 := Lib.hid ((HR1_100.out.below hbc).lt)
          have K0_102 := Lib.hid (K0_100.out.after hbc)
          have K1_102 := Lib.hid (K1_100.out.after hbc)
          have ROr_102 := Lib.hid (hr)
          clear hbc HB100 HR0_100 HR1_100 K0_100 K1_100 hb hr
          have COr := Lib.hid hc
          have MOr := Lib.hid hh
          clear hc hh
          have VOr : Hid (decide (hasP rOr s2) = true) := by
            show _ = _
            have h1 := MOr.out s2
            have h2 := HHX.out
            have h3 := HHY.out
            have h4 := HCN.out
            simp [h1, h2, h3]
          go_wp2_with fail
          refine (has_any AOr cOr rOr s2 _ ROr_102.out (by have := can_len COr.out; simp only [maxLen]; omega) _ VOr.out).mono ?_
          rintro e w103 ⟨rfl, hb⟩
          have hbc := hb
          have HB104 := Lib.hid (below_then HB102.out hbc (Nat.le_refl _))
          have HR0_104 := Lib.hid ((HR0_102.out.below hbc).lt)
          have HR1_104 := Lib.hid ((HR1_102.out.below hbc).lt)
          have K0_104 := Lib.hid (K0_102.out.after hbc)
          have K1_104 := Lib.hid (K1_102.out.after hbc)
          have ROr_104 := Lib.hid ((ROr_102.out.below hbc).lt)
          clear hbc HB102 HR0_102 HR1_102 K0_102 K1_102 ROr_102 hb
          have eK0_ := K0_104.out.cell 0
          have lK0_ := K0_104.out.lt
          simp at eK0_
          have eK1_ := K1_104.out.cell 0
          have lK1_ := K1_104.out.lt
          simp at eK1_
          go_wp2_with fail
          clear eK0_ lK0_
          clear eK1_ lK1_
          refine (and_any A0 A1 c0 c1 l0 l1 _ HR0_104.out HR1_104.out (by omega) (by omega)).mono ?_
          rintro e w105 ⟨AAnd, cAnd, rAnd, rfl, hc, hh, hr, hb⟩
          have hbc := hb
          have HB106 := Lib.hid (below_then HB104.out hbc (Nat.le_refl _))
          have HR0_106 := Lib.hid ((HR0_104.out.below hbc).lt)
          have HR1_106 := Lib.hid ((HR1_104.out.below hbc).lt)
          have K0_106 := Lib.hid (K0_104.out.after hbc)
          have K1_106 := Lib.hid (K1_104.out.after hbc)
          have ROr_106 := Lib.hid ((ROr_104.out.below hbc).lt)
          have RAnd_106 := Lib.hid (hr)
          clear hbc HB104 HR0_104 HR1_104 K0_104 K1_104 ROr_104 hb hr
          have CAnd := Lib.hid hc
          have MAnd := Lib.hid hh
          clear hc hh
          have VAnd : Hid (decide (hasP rAnd s2) = false) := by
            show _ = _
            have h1 := MAnd.out s2
            have h2 := HHX.out
            have h3 := HHY.out
            have h4 := HCN.out
            simp [h1, h2, h3]
          go_wp2_with fail
          refine (has_any AAnd cAnd rAnd s2 _ RAnd_106.out (by have := can_len CAnd.out; simp only [maxLen]; omega) _ VAnd.out).mono ?_
          rintro e w107 ⟨rfl, hb⟩
          have hbc := hb
          have HB108 := Lib.hid (below_then HB106.out hbc (Nat.le_refl _))
          have HR0_108 := Lib.hid ((HR0_106.out.below hbc).lt)
          have HR1_108 := Lib.hid ((HR1_106.out.below hbc).lt)
          have K0_108 := Lib.hid (K0_106.out.after hbc)
          have K1_108 := Lib.hid (K1_106.out.after hbc)
          have ROr_108 := Lib.hid ((ROr_106.out.below hbc).lt)
          have RAnd_108 := Lib.hid ((RAnd_106.out.below hbc).lt)
          clear hbc HB106 HR0_106 HR1_106 K0_106 K1_106 ROr_106 RAnd_106 hb
          have eK0_ := K0_108.out.cell 0
          have lK0_ := K0_108.out.lt
          simp at eK0_
          have eK1_ := K1_108.out.cell 0
          have lK1_ := K1_108.out.lt
          simp at eK1_
          go_wp2_with fail
          clear eK0_ lK0_
          clear eK1_ lK1_
          refine (minus_any A0 A1 c0 c1 l0 l1 _ HR0_108.out HR1_108.out (by omega) (by omega)).mono ?_
          rintro e w109 ⟨AMi, cMi, rMi, rfl, hc, hh, hr, hb⟩
          have hbc := hb
          have HB110 := Lib.hid (below_then HB108.out hbc (Nat.le_refl _))
          have HR0_110 := Lib.hid ((HR0_108.out.below hbc).lt)
          have HR1_110 := Lib.hid ((HR1_108.out.below hbc).lt)
          have K0_110 := Lib.hid (K0_108.out.after hbc)
          have K1_110 := Lib.hid (K1_108.out.after hbc)
          have ROr_110 := Lib.hid ((ROr_108.out.below hbc).lt)
          have RAnd_110 := Lib.hid ((RAnd_108.out.below hbc).lt)
          have RMi_110 := Lib.hid (hr)
          clear hbc HB108 HR0_108 HR1_108 K0_108 K1_108 ROr_108 RAnd_108 hb hr
          have CMi := Lib.hid hc
          have MMi := Lib.hid hh
          clear hc hh
          have VMi : Hid (decide (hasP rMi s2) = true) := by
            show _ = _
            have h1 := MMi.out s2
            have h2 := HHX.out
            have h3 := HHY.out
            have h4 := HCN.out
            simp [h1, h2, h3]
          go_wp2_with fail
          refine (has_any AMi cMi rMi s2 _ RMi_110.out (by have := can_len CMi.out; simp only [maxLen]; omega) _ VMi.out).mono ?_
          rintro e w111 ⟨rfl, hb⟩
          have hbc := hb
          have HB112 := Lib.hid (below_then HB110.out hbc (Nat.le_refl _))
          have HR0_112 := Lib.hid ((HR0_110.out.below hbc).lt)
          have HR1_112 := Lib.hid ((HR1_110.out.below hbc).lt)
          have K0_112 := Lib.hid (K0_110.out.after hbc)
          have K1_112 := Lib.hid (K1_110.out.after hbc)
          have ROr_112 := Lib.hid ((ROr_110.out.below hbc).lt)
          have RAnd_112 := Lib.hid ((RAnd_110.out.below hbc).lt)
          have RMi_112 := Lib.hid ((RMi_110.out.below hbc).lt)
          clear hbc HB110 HR0_110 HR1_110 K0_110 K1_110 ROr_110 RAnd_110 RMi_110 hb
          have eK0_ := K0_112.out.cell 0
          have lK0_ := K0_112.out.lt
          simp at eK0_
          have eK1_ := K1_112.out.cell 0
          have lK1_ := K1_112.out.lt
          simp at eK1_
          go_wp2_with fail
          clear eK0_ lK0_
          clear eK1_ lK1_
          refine (not_any A0 c0 l0 _ HR0_112.out (by omega)).mono ?_
          rintro e w113 ⟨ANo, cNo, rNo, rfl, hc, hh, hr, hb⟩
          have hbc := hb
          have HB114 := Lib.hid (below_then HB112.out hbc (Nat.le_refl _))
          have HR0_114 := Lib.hid ((HR0_112.out.below hbc).lt)
          have HR1_114 := Lib.hid ((HR1_112.out.below hbc).lt)
          have K0_114 := Lib.hid (K0_112.out.after hbc)
          have K1_114 := Lib.hid (K1_112.out.after hbc)
          have ROr_114 := Lib.hid ((ROr_112.out.below hbc).lt)
          have RAnd_114 := Lib.hid ((RAnd_112.out.below hbc).lt)
          have RMi_114 := Lib.hid ((RMi_112.out.below hbc).lt)
          have RNo_114 := Lib.hid (hr)
          clear hbc HB112 HR0_112 HR1_112 K0_112 K1_112 ROr_112 RAnd_112 RMi_112 hb hr
          have CNo := Lib.hid hc
          have MNo := Lib.hid hh
          clear hc hh
          have VNo : Hid (decide (hasP rNo s2) = false) := by
            show _ = _
            have h1 := MNo.out s2
            have h2 := HHX.out
            have h3 := HHY.out
            have h4 := HCN.out
            simp [h1, h2, h4]
          go_wp2_with fail
          refine (has_any ANo cNo rNo s2 _ RNo_114.out (by have := can_len CNo.out; simp only [maxLen]; omega) _ VNo.out).mono ?_
          rintro e w115 ⟨rfl, hb⟩
          have hbc := hb
          have HB116 := Lib.hid (below_then HB114.out hbc (Nat.le_refl _))
          have HR0_116 := Lib.hid ((HR0_114.out.below hbc).lt)
          have HR1_116 := Lib.hid ((HR1_114.out.below hbc).lt)
          have K0_116 := Lib.hid (K0_114.out.after hbc)
          have K1_116 := Lib.hid (K1_114.out.after hbc)
          have ROr_116 := Lib.hid ((ROr_114.out.below hbc).lt)
          have RAnd_116 := Lib.hid ((RAnd_114.out.below hbc).lt)
          have RMi_116 := Lib.hid ((RMi_114.out.below hbc).lt)
          have RNo_116 := Lib.hid ((RNo_114.out.below hbc).lt)
          clear hbc HB114 HR0_114 HR1_114 K0_114 K1_114 ROr_114 RAnd_114 RMi_114 RNo_114 hb
          go_wp2_with fail
          refine (alive_any _ (HD.out.below HB116.out) (HM.out.below HB116.out)).mono ?_
          rintro e w117 ⟨rfl, hb⟩
          have hbc := hb
          have HB118 := Lib.hid (below_then HB116.out hbc (Nat.le_refl _))
          have HR0_118 := Lib.hid ((HR0_116.out.below hbc).lt)
          have HR1_118 := Lib.hid ((HR1_116.out.below hbc).lt)
          have K0_118 := Lib.hid (K0_116.out.after hbc)
          have K1_118 := Lib.hid (K1_116.out.after hbc)
          have ROr_118 := Lib.hid ((ROr_116.out.below hbc).lt)
          have RAnd_118 := Lib.hid ((RAnd_116.out.below hbc).lt)
          have RMi_118 := Lib.hid ((RMi_116.out.below hbc).lt)
          have RNo_118 := Lib.hid ((RNo_116.out.below hbc).lt)
          clear hbc HB116 HR0_116 HR1_116 K0_116 K1_116 ROr_116 RAnd_116 RMi_116 RNo_116 hb
          go_wp2
          go_ret
          exact ⟨rfl, HB118.out⟩
      · by_cases hy : hasP l1 s2
        · have hc1 : 0 ≤ s2 := hcc.1
          have hc2 : s2 ≤ 1114111 := hcc.2
          have hcn : codeP s2 := hcc
          have HX : Hid (decide (hasP l0 s2) = false) := by show _ = _; simp [hx]
          have HY : Hid (decide (hasP l1 s2) = true) := by show _ = _; simp [hy]
          have HCN := Lib.hid hcn
          have HHX := Lib.hid hx
          have HHY := Lib.hid hy
          clear hcn hx hy hcc
          go_enter Tryd.func3, Tryd.ntmps3
          go_wp2_with fail
          obtain ⟨n119, hv, hbb, hk0, hk1⟩ : ∃ v, v = ((w.alloc (.cells #[.slice A0 l0.length c0] 24)).alloc (.cells #[.slice A1 l1.length c1] 24)) ∧ Below w.heap.size w v ∧ Blk v (w.heap.size) 24 #[.slice A0 l0.length c0] ∧ Blk v (w.heap.size + 1) 24 #[.slice A1 l1.length c1] :=
            ⟨_, rfl, ((Below.refl _ _).alloc (Nat.le_refl _) _).alloc (by simp; try omega) _, (Blk.at_new (by simp; try omega)).alloc _, Blk.at_new (by simp; try omega)⟩
          rw [← hv]
          clear hv
          obtain ⟨b1, ha⟩ : ∃ a, a = w.heap.size + 1 := ⟨_, rfl⟩
          rw [← ha] at hk1 ⊢
          clear ha
          obtain ⟨b0, ha⟩ : ∃ a, a = w.heap.size := ⟨_, rfl⟩
          rw [← ha] at hk0 ⊢
          clear ha
          have hbc := hbb
          have HB120 := Lib.hid (below_then HB0.out hbc (Nat.le_refl _))
          have HR0_120 := Lib.hid ((HR0_0.out.below hbc).lt)
          have HR1_120 := Lib.hid ((HR1_0.out.below hbc).lt)
          have K0_120 := Lib.hid (hk0)
          have K1_120 := Lib.hid (hk1)
          clear hbc HB0 HR0_0 HR1_0 hbb hk0 hk1
          refine (small2_any A0 A1 _ _ c0 c1 _ _ HS.out).mono ?_
          rintro e w121 ⟨rfl, hb⟩
          have hbc := hb
          have HB122 := Lib.hid (below_then HB120.out hbc (Nat.le_refl _))
          have HR0_122 := Lib.hid ((HR0_120.out.below hbc).lt)
          have HR1_122 := Lib.hid ((HR1_120.out.below hbc).lt)
          have K0_122 := Lib.hid (K0_120.out.after hbc)
          have K1_122 := Lib.hid (K1_120.out.after hbc)
          clear hbc HB120 HR0_120 HR1_120 K0_120 K1_120 hb
          go_wp2_with fail
          refine wp_region_tree (fun w' => Below w.heap.size w w' ∧ Blk w' b0 24 #[.slice A0 l0.length c0] ∧ Blk w' b1 24 #[.slice A1 l1.length c1]) (.float 0 (.float 1 (.float 3 (.float 4 (.float 6 (.float 7 (.one 2 (.one 5 (.float 8 (.float 9 (.float 10 (.float 11 (.float 12 (.float 13 (.float 14 .done))))))))))))))) (by kernel_rfl) (by kernel_rfl) (fun _ _ d _ _ h => by cases d <;> exact h) ⟨HB122.out.drew, K0_122.out.drew, K1_122.out.drew⟩ ?_
          obtain ⟨d123, hdr, hbd⟩ : ∃ d, d = w121.drew ∧ Below w121.heap.size w121 d := ⟨_, rfl, (Below.refl _ _).drew⟩
          rw [← hdr]
          clear hdr
          have hbc := hbd
          have HB124 := Lib.hid (below_then HB122.out hbc (Nat.le_refl _))
          have HR0_124 := Lib.hid ((HR0_122.out.below hbc).lt)
          have HR1_124 := Lib.hid ((HR1_122.out.below hbc).lt)
          have K0_124 := Lib.hid (K0_122.out.after hbc)
          have K1_124 := Lib.hid (K1_122.out.after hbc)
          clear hbc HB122 HR0_122 HR1_122 K0_122 K1_122 hbd
          repeat (first
            | (refine wpTr_fskip (by simp only [List.getElem?_toArray, List.getElem?_cons_zero, List.getElem?_cons_succ]; rfl) (by rfl) ?_
               simp only [Act.put, List.setIfInBounds_toArray, List.set_cons_zero, List.set_cons_succ])
            | (refine wpTr_float (v := ?_) (by simp only [List.getElem?_toArray, List.getElem?_cons_zero, List.getElem?_cons_succ]; rfl) (by rfl) (fun w' hS => ?_) ?_
               rotate_left
               (obtain ⟨hSb, hS0, hS1⟩ := hS; have eS0 := hS0.cell 0; have lS0 := hS0.lt; simp at eS0; have eS1 := hS1.cell 0; have lS1 := hS1.lt; simp at eS1; go_simp; first | done | rfl)
               simp only [Act.put, List.setIfInBounds_toArray, List.set_cons_zero, List.set_cons_succ]))
          refine wpTr_one ?_
          refine stepTr_K (by simp only [List.getElem?_toArray, List.getElem?_cons_zero, List.getElem?_cons_succ]; rfl) (by rfl) (fun K hK => ?_)
          go_simp
          refine (has_any A0 c0 l0 s2 _ HR0_124.out (by simp only [maxLen]; omega) _ HX.out).mono ?_
          rintro e w125 ⟨rfl, hb⟩
          have hbc := hb
          have HB126 := Lib.hid (below_then HB124.out hbc (Nat.le_refl _))
          have HR0_126 := Lib.hid ((HR0_124.out.below hbc).lt)
          have HR1_126 := Lib.hid ((HR1_124.out.below hbc).lt)
          have K0_126 := Lib.hid (K0_124.out.after hbc)
          have K1_126 := Lib.hid (K1_124.out.after hbc)
          clear hbc HB124 HR0_124 HR1_124 K0_124 K1_124 hb
          refine hK.out _ _ ⟨HB126.out, K0_126.out, K1_126.out⟩ ?_
          clear hK K
          try simp only [Act.put, List.setIfInBounds_toArray, List.set_cons_zero, List.set_cons_succ]
          refine wpTr_one ?_
          refine stepTr_K (by simp only [List.getElem?_toArray, List.getElem?_cons_zero, List.getElem?_cons_succ]; rfl) (by rfl) (fun K hK => ?_)
          go_simp
          refine (has_any A1 c1 l1 s2 _ HR1_126.out (by simp only [maxLen]; omega) _ HY.out).mono ?_
          rintro e w127 ⟨rfl, hb⟩
          have hbc := hb
          have HB128 := Lib.hid (below_then HB126.out hbc (Nat.le_refl _))
          have HR0_128 := Lib.hid ((HR0_126.out.below hbc).lt)
          have HR1_128 := Lib.hid ((HR1_126.out.below hbc).lt)
          have K0_128 := Lib.hid (K0_126.out.after hbc)
          have K1_128 := Lib.hid (K1_126.out.after hbc)
          clear hbc HB126 HR0_126 HR1_126 K0_126 K1_126 hb
          refine hK.out _ _ ⟨HB128.out, K0_128.out, K1_128.out⟩ ?_
          clear hK K
          try simp only [Act.put, List.setIfInBounds_toArray, List.set_cons_zero, List.set_cons_succ]
          repeat (first
            | (refine wpTr_fskip (by simp only [List.getElem?_toArray, List.getElem?_cons_zero, List.getElem?_cons_succ]; rfl) (by rfl) ?_
               simp only [Act.put, List.setIfInBounds_toArray, List.set_cons_zero, List.set_cons_succ])
            | (refine wpTr_float (v := ?_) (by simp only [List.getElem?_toArray, List.getElem?_cons_zero, List.getElem?_cons_succ]; rfl) (by rfl) (fun w' hS => ?_) ?_
               rotate_left
               (obtain ⟨hSb, hS0, hS1⟩ := hS; have eS0 := hS0.cell 0; have lS0 := hS0.lt; simp at eS0; have eS1 := hS1.cell 0; have lS1 := hS1.lt; simp at eS1; go_simp; first | done | rfl)
               simp only [Act.put, List.setIfInBounds_toArray, List.set_cons_zero, List.set_cons_succ]))
          refine wpTr_done ?_
          have eK0_ := K0_128.out.cell 0
          have lK0_ := K0_128.out.lt
          simp at eK0_
          have eK1_ := K1_128.out.cell 0
          have lK1_ := K1_128.out.lt
          simp at eK1_
          go_wp2_with fail
          clear eK0_ lK0_
          clear eK1_ lK1_
          refine (or_any A0 A1 c0 c1 l0 l1 _ HR0_128.out HR1_128.out (by omega) (by omega)).mono ?_
          rintro e w129 ⟨AOr, cOr, rOr, rfl, hc, hh, hr, hb⟩
          have hbc := hb
          have HB130 := Lib.hid (below_then HB128.out hbc (Nat.le_refl _))
          have HR0_130 := Lib.hid ((HR0_128.out.below hbc).lt)
          have HR1_130 := Lib.hid ((HR1_128.out.below hbc).lt)
          have K0_130 := Lib.hid (K0_128.out.after hbc)
          have K1_130 := Lib.hid (K1_128.out.after hbc)
          have ROr_130 := Lib.hid (hr)
          clear hbc HB128 HR0_128 HR1_128 K0_128 K1_128 hb hr
          have COr := Lib.hid hc
          have MOr := Lib.hid hh
          clear hc hh
          have VOr : Hid (decide (hasP rOr s2) = true) := by
            show _ = _
            have h1 := MOr.out s2
            have h2 := HHX.out
            have h3 := HHY.out
            have h4 := HCN.out
            simp [h1, h2, h3]
          go_wp2_with fail
          refine (has_any AOr cOr rOr s2 _ ROr_130.out (by have := can_len COr.out; simp only [maxLen]; omega) _ VOr.out).mono ?_
          rintro e w131 ⟨rfl, hb⟩
          have hbc := hb
          have HB132 := Lib.hid (below_then HB130.out hbc (Nat.le_refl _))
          have HR0_132 := Lib.hid ((HR0_130.out.below hbc).lt)
          have HR1_132 := Lib.hid ((HR1_130.out.below hbc).lt)
          have K0_132 := Lib.hid (K0_130.out.after hbc)
          have K1_132 := Lib.hid (K1_130.out.after hbc)
          have ROr_132 := Lib.hid ((ROr_130.out.below hbc).lt)
          clear hbc HB130 HR0_130 HR1_130 K0_130 K1_130 ROr_130 hb
          have eK0_ := K0_132.out.cell 0
          have lK0_ := K0_132.out.lt
          simp at eK0_
          have eK1_ := K1_132.out.cell 0
          have lK1_ := K1_132.out.lt
          simp at eK1_
          go_wp2_with fail
          clear eK0_ lK0_
          clear eK1_ lK1_
          refine (and_any A0 A1 c0 c1 l0 l1 _ HR0_132.out HR1_132.out (by omega) (by omega)).mono ?_
          rintro e w133 ⟨AAnd, cAnd, rAnd, rfl, hc, hh, hr, hb⟩
          have hbc := hb
          have HB134 := Lib.hid (below_then HB132.out hbc (Nat.le_refl _))
          have HR0_134 := Lib.hid ((HR0_132.out.below hbc).lt)
          have HR1_134 := Lib.hid ((HR1_132.out.below hbc).lt)
          have K0_134 := Lib.hid (K0_132.out.after hbc)
          have K1_134 := Lib.hid (K1_132.out.after hbc)
          have ROr_134 := Lib.hid ((ROr_132.out.below hbc).lt)
          have RAnd_134 := Lib.hid (hr)
          clear hbc HB132 HR0_132 HR1_132 K0_132 K1_132 ROr_132 hb hr
          have CAnd := Lib.hid hc
          have MAnd := Lib.hid hh
          clear hc hh
          have VAnd : Hid (decide (hasP rAnd s2) = false) := by
            show _ = _
            have h1 := MAnd.out s2
            have h2 := HHX.out
            have h3 := HHY.out
            have h4 := HCN.out
            simp [h1, h2, h3]
          go_wp2_with fail
          refine (has_any AAnd cAnd rAnd s2 _ RAnd_134.out (by have := can_len CAnd.out; simp only [maxLen]; omega) _ VAnd.out).mono ?_
          rintro e w135 ⟨rfl, hb⟩
          have hbc := hb
          have HB136 := Lib.hid (below_then HB134.out hbc (Nat.le_refl _))
          have HR0_136 := Lib.hid ((HR0_134.out.below hbc).lt)
          have HR1_136 := Lib.hid ((HR1_134.out.below hbc).lt)
          have K0_136 := Lib.hid (K0_134.out.after hbc)
          have K1_136 := Lib.hid (K1_134.out.after hbc)
          have ROr_136 := Lib.hid ((ROr_134.out.below hbc).lt)
          have RAnd_136 := Lib.hid ((RAnd_134.out.below hbc).lt)
          clear hbc HB134 HR0_134 HR1_134 K0_134 K1_134 ROr_134 RAnd_134 hb
          have eK0_ := K0_136.out.cell 0
          have lK0_ := K0_136.out.lt
          simp at eK0_
          have eK1_ := K1_136.out.cell 0
          have lK1_ := K1_136.out.lt
          simp at eK1_
          go_wp2_with fail
          clear eK0_ lK0_
          clear eK1_ lK1_
          refine (minus_any A0 A1 c0 c1 l0 l1 _ HR0_136.out HR1_136.out (by omega) (by omega)).mono ?_
          rintro e w137 ⟨AMi, cMi, rMi, rfl, hc, hh, hr, hb⟩
          have hbc := hb
          have HB138 := Lib.hid (below_then HB136.out hbc (Nat.le_refl _))
          have HR0_138 := Lib.hid ((HR0_136.out.below hbc).lt)
          have HR1_138 := Lib.hid ((HR1_136.out.below hbc).lt)
          have K0_138 := Lib.hid (K0_136.out.after hbc)
          have K1_138 := Lib.hid (K1_136.out.after hbc)
          have ROr_138 := Lib.hid ((ROr_136.out.below hbc).lt)
          have RAnd_138 := Lib.hid ((RAnd_136.out.below hbc).lt)
          have RMi_138 := Lib.hid (hr)
          clear hbc HB136 HR0_136 HR1_136 K0_136 K1_136 ROr_136 RAnd_136 hb hr
          have CMi := Lib.hid hc
          have MMi := Lib.hid hh
          clear hc hh
          have VMi : Hid (decide (hasP rMi s2) = false) := by
            show _ = _
            have h1 := MMi.out s2
            have h2 := HHX.out
            have h3 := HHY.out
            have h4 := HCN.out
            simp [h1, h2, h3]
          go_wp2_with fail
          refine (has_any AMi cMi rMi s2 _ RMi_138.out (by have := can_len CMi.out; simp only [maxLen]; omega) _ VMi.out).mono ?_
          rintro e w139 ⟨rfl, hb⟩
          have hbc := hb
          have HB140 := Lib.hid (below_then HB138.out hbc (Nat.le_refl _))
          have HR0_140 := Lib.hid ((HR0_138.out.below hbc).lt)
          have HR1_140 := Lib.hid ((HR1_138.out.below hbc).lt)
          have K0_140 := Lib.hid (K0_138.out.after hbc)
          have K1_140 := Lib.hid (K1_138.out.after hbc)
          have ROr_140 := Lib.hid ((ROr_138.out.below hbc).lt)
          have RAnd_140 := Lib.hid ((RAnd_138.out.below hbc).lt)
          have RMi_140 := Lib.hid ((RMi_138.out.below hbc).lt)
          clear hbc HB138 HR0_138 HR1_138 K0_138 K1_138 ROr_138 RAnd_138 RMi_138 hb
          have eK0_ := K0_140.out.cell 0
          have lK0_ := K0_140.out.lt
          simp at eK0_
          have eK1_ := K1_140.out.cell 0
          have lK1_ := K1_140.out.lt
          simp at eK1_
          go_wp2_with fail
          clear eK0_ lK0_
          clear eK1_ lK1_
          refine (not_any A0 c0 l0 _ HR0_140.out (by omega)).mono ?_
          rintro e w141 ⟨ANo, cNo, rNo, rfl, hc, hh, hr, hb⟩
          have hbc := hb
          have HB142 := Lib.hid (below_then HB140.out hbc (Nat.le_refl _))
          have HR0_142 := Lib.hid ((HR0_140.out.below hbc).lt)
          have HR1_142 := Lib.hid ((HR1_140.out.below hbc).lt)
          have K0_142 := Lib.hid (K0_140.out.after hbc)
          have K1_142 := Lib.hid (K1_140.out.after hbc)
          have ROr_142 := Lib.hid ((ROr_140.out.below hbc).lt)
          have RAnd_142 := Lib.hid ((RAnd_140.out.below hbc).lt)
          have RMi_142 := Lib.hid ((RMi_140.out.below hbc).lt)
          have RNo_142 := Lib.hid (hr)
          clear hbc HB140 HR0_140 HR1_140 K0_140 K1_140 ROr_140 RAnd_140 RMi_140 hb hr
          have CNo := Lib.hid hc
          have MNo := Lib.hid hh
          clear hc hh
          have VNo : Hid (decide (hasP rNo s2) = true) := by
            show _ = _
            have h1 := MNo.out s2
            have h2 := HHX.out
            have h3 := HHY.out
            have h4 := HCN.out
            simp [h1, h2, h4]
          go_wp2_with fail
          refine (has_any ANo cNo rNo s2 _ RNo_142.out (by have := can_len CNo.out; simp only [maxLen]; omega) _ VNo.out).mono ?_
          rintro e w143 ⟨rfl, hb⟩
          have hbc := hb
          have HB144 := Lib.hid (below_then HB142.out hbc (Nat.le_refl _))
          have HR0_144 := Lib.hid ((HR0_142.out.below hbc).lt)
          have HR1_144 := Lib.hid ((HR1_142.out.below hbc).lt)
          have K0_144 := Lib.hid (K0_142.out.after hbc)
          have K1_144 := Lib.hid (K1_142.out.after hbc)
          have ROr_144 := Lib.hid ((ROr_142.out.below hbc).lt)
          have RAnd_144 := Lib.hid ((RAnd_142.out.below hbc).lt)
          have RMi_144 := Lib.hid ((RMi_142.out.below hbc).lt)
          have RNo_144 := Lib.hid ((RNo_142.out.below hbc).lt)
          clear hbc HB142 HR0_142 HR1_142 K0_142 K1_142 ROr_142 RAnd_142 RMi_142 RNo_142 hb
          go_wp2_with fail
          refine (alive_any _ (HD.out.below HB144.out) (HM.out.below HB144.out)).mono ?_
          rintro e w145 ⟨rfl, hb⟩
          have hbc := hb
          have HB146 := Lib.hid (below_then HB144.out hbc (Nat.le_refl _))
          have HR0_146 := Lib.hid ((HR0_144.out.below hbc).lt)
          have HR1_146 := Lib.hid ((HR1_144.out.below hbc).lt)
          have K0_146 := Lib.hid (K0_144.out.after hbc)
          have K1_146 := Lib.hid (K1_144.out.after hbc)
          have ROr_146 := Lib.hid ((ROr_144.out.below hbc).lt)
          have RAnd_146 := Lib.hid ((RAnd_144.out.below hbc).lt)
          have RMi_146 := Lib.hid ((RMi_144.out.below hbc).lt)
          have RNo_146 := Lib.hid ((RNo_144.out.below hbc).lt)
          clear hbc HB144 HR0_144 HR1_144 K0_144 K1_144 ROr_144 RAnd_144 RMi_144 RNo_144 hb
          go_wp2
          go_ret
          exact ⟨rfl, HB146.out⟩
        · have hc1 : 0 ≤ s2 := hcc.1
          have hc2 : s2 ≤ 1114111 := hcc.2
          have hcn : codeP s2 := hcc
          have HX : Hid (decide (hasP l0 s2) = false) := by show _ = _; simp [hx]
          have HY : Hid (decide (hasP l1 s2) = false) := by show _ = _; simp [hy]
          have HCN := Lib.hid hcn
          have HHX := Lib.hid hx
          have HHY := Lib.hid hy
          clear hcn hx hy hcc
          go_enter Tryd.func3, Tryd.ntmps3
          go_wp2_with fail
          obtain ⟨n147, hv, hbb, hk0, hk1⟩ : ∃ v, v = ((w.alloc (.cells #[.slice A0 l0.length c0] 24)).alloc (.cells #[.slice A1 l1.length c1] 24)) ∧ Below w.heap.size w v ∧ Blk v (w.heap.size) 24 #[.slice A0 l0.length c0] ∧ Blk v (w.heap.size + 1) 24 #[.slice A1 l1.length c1] :=
            ⟨_, rfl, ((Below.refl _ _).alloc (Nat.le_refl _) _).alloc (by simp; try omega) _, (Blk.at_new (by simp; try omega)).alloc _, Blk.at_new (by simp; try omega)⟩
          rw [← hv]
          clear hv
          obtain ⟨b1, ha⟩ : ∃ a, a = w.heap.size + 1 := ⟨_, rfl⟩
          rw [← ha] at hk1 ⊢
          clear ha
          obtain ⟨b0, ha⟩ : ∃ a, a = w.heap.size := ⟨_, rfl⟩
          rw [← ha] at hk0 ⊢
          clear ha
          have hbc := hbb
          have HB148 := Lib.hid (below_then HB0.out hbc (Nat.le_refl _))
          have HR0_148 := Lib.hid ((HR0_0.out.below hbc).lt)
          have HR1_148 := Lib.hid ((HR1_0.out.below hbc).lt)
          have K0_148 := Lib.hid (hk0)
          have K1_148 := Lib.hid (hk1)
          clear hbc HB0 HR0_0 HR1_0 hbb hk0 hk1
          refine (small2_any A0 A1 _ _ c0 c1 _ _ HS.out).mono ?_
          rintro e w149 ⟨rfl, hb⟩
          have hbc := hb
          have HB150 := Lib.hid (below_then HB148.out hbc (Nat.le_refl _))
          have HR0_150 := Lib.hid ((HR0_148.out.below hbc).lt)
          have HR1_150 := Lib.hid ((HR1_148.out.below hbc).lt)
          have K0_150 := Lib.hid (K0_148.out.after hbc)
          have K1_150 := Lib.hid (K1_148.out.after hbc)
          clear hbc HB148 HR0_148 HR1_148 K0_148 K1_148 hb
          go_wp2_with fail
          refine wp_region_tree (fun w' => Below w.heap.size w w' ∧ Blk w' b0 24 #[.slice A0 l0.length c0] ∧ Blk w' b1 24 #[.slice A1 l1.length c1]) (.float 0 (.float 1 (.float 3 (.float 4 (.float 6 (.float 7 (.one 2 (.one 5 (.float 8 (.float 9 (.float 10 (.float 11 (.float 12 (.float 13 (.float 14 .done))))))))))))))) (by kernel_rfl) (by kernel_rfl) (fun _ _ d _ _ h => by cases d <;> exact h) ⟨HB150.out.drew, K0_150.out.drew, K1_150.out.drew⟩ ?_
          obtain ⟨d151, hdr, hbd⟩ : ∃ d, d = w149.drew ∧ Below w149.heap.size w149 d := ⟨_, rfl, (Below.refl _ _).drew⟩
          rw [← hdr]
          clear hdr
          have hbc := hbd
          have HB152 := Lib.hid (below_then HB150.out hbc (Nat.le_refl _))
          have HR0_152 := Lib.hid ((HR0_150.out.below hbc).lt)
          have HR1_152 := Lib.hid ((HR1_150.out.below hbc).lt)
          have K0_152 := Lib.hid (K0_150.out.after hbc)
          have K1_152 := Lib.hid (K1_150.out.after hbc)
          clear hbc HB150 HR0_150 HR1_150 K0_150 K1_150 hbd
          repeat (first
            | (refine wpTr_fskip (by simp only [List.getElem?_toArray, List.getElem?_cons_zero, List.getElem?_cons_succ]; rfl) (by rfl) ?_
               simp only [Act.put, List.setIfInBounds_toArray, List.set_cons_zero, List.set_cons_succ])
            | (refine wpTr_float (v := ?_) (by simp only [List.getElem?_toArray, List.getElem?_cons_zero, List.getElem?_cons_succ]; rfl) (by rfl) (fun w' hS => ?_) ?_
               rotate_left
               (obtain ⟨hSb, hS0, hS1⟩ := hS; have eS0 := hS0.cell 0; have lS0 := hS0.lt; simp at eS0; have eS1 := hS1.cell 0; have lS1 := hS1.lt; simp at eS1; go_simp; first | done | rfl)
               simp only [Act.put, List.setIfInBounds_toArray, List.set_cons_zero, List.set_cons_succ]))
          refine wpTr_one ?_
          refine stepTr_K (by simp only [List.getElem?_toArray, List.getElem?_cons_zero, List.getElem?_cons_succ]; rfl) (by rfl) (fun K hK => ?_)
          go_simp
          refine (has_any A0 c0 l0 s2 _ HR0_152.out (by simp only [maxLen]; omega) _ HX.out).mono ?_
          rintro e w153 ⟨rfl, hb⟩
          have hbc := hb
          have HB154 := Lib.hid (below_then HB152.out hbc (Nat.le_refl _))
          have HR0_154 := Lib.hid ((HR0_152.out.below hbc).lt)
          have HR1_154 := Lib.hid ((HR1_152.out.below hbc).lt)
          have K0_154 := Lib.hid (K0_152.out.after hbc)
          have K1_154 := Lib.hid (K1_152.out.after hbc)
          clear hbc HB152 HR0_152 HR1_152 K0_152 K1_152 hb
          refine hK.out _ _ ⟨HB154.out, K0_154.out, K1_154.out⟩ ?_
          clear hK K
          try simp only [Act.put, List.setIfInBounds_toArray, List.set_cons_zero, List.set_cons_succ]
          refine wpTr_one ?_
          refine stepTr_K (by simp only [List.getElem?_toArray, List.getElem?_cons_zero, List.getElem?_cons_succ]; rfl) (by rfl) (fun K hK => ?_)
          go_simp
          refine (has_any A1 c1 l1 s2 _ HR1_154.out (by simp only [maxLen]; omega) _ HY.out).mono ?_
          rintro e w155 ⟨rfl, hb⟩
          have hbc := hb
          have HB156 := Lib.hid (below_then HB154.out hbc (Nat.le_refl _))
          have HR0_156 := Lib.hid ((HR0_154.out.below hbc).lt)
          have HR1_156 := Lib.hid ((HR1_154.out.below hbc).lt)
          have K0_156 := Lib.hid (K0_154.out.after hbc)
          have K1_156 := Lib.hid (K1_154.out.after hbc)
          clear hbc HB154 HR0_154 HR1_154 K0_154 K1_154 hb
          refine hK.out _ _ ⟨HB156.out, K0_156.out, K1_156.out⟩ ?_
          clear hK K
          try simp only [Act.put, List.setIfInBounds_toArray, List.set_cons_zero, List.set_cons_succ]
          repeat (first
            | (refine wpTr_fskip (by simp only [List.getElem?_toArray, List.getElem?_cons_zero, List.getElem?_cons_succ]; rfl) (by rfl) ?_
               simp only [Act.put, List.setIfInBounds_toArray, List.set_cons_zero, List.set_cons_succ])
            | (refine wpTr_float (v := ?_) (by simp only [List.getElem?_toArray, List.getElem?_cons_zero, List.getElem?_cons_succ]; rfl) (by rfl) (fun w' hS => ?_) ?_
               rotate_left
               (obtain ⟨hSb, hS0, hS1⟩ := hS; have eS0 := hS0.cell 0; have lS0 := hS0.lt; simp at eS0; have eS1 := hS1.cell 0; have lS1 := hS1.lt; simp at eS1; go_simp; first | done | rfl)
               simp only [Act.put, List.setIfInBounds_toArray, List.set_cons_zero, List.set_cons_succ]))
          refine wpTr_done ?_
          have eK0_ := K0_156.out.cell 0
          have lK0_ := K0_156.out.lt
          simp at eK0_
          have eK1_ := K1_156.out.cell 0
          have lK1_ := K1_156.out.lt
          simp at eK1_
          go_wp2_with fail
          clear eK0_ lK0_
          clear eK1_ lK1_
          refine (or_any A0 A1 c0 c1 l0 l1 _ HR0_156.out HR1_156.out (by omega) (by omega)).mono ?_
          rintro e w157 ⟨AOr, cOr, rOr, rfl, hc, hh, hr, hb⟩
          have hbc := hb
          have HB158 := Lib.hid (below_then HB156.out hbc (Nat.le_refl _))
          have HR0_158 := Lib.hid ((HR0_156.out.below hbc).lt)
          have HR1_158 := Lib.hid ((HR1_156.out.below hbc).lt)
          have K0_158 := Lib.hid (K0_156.out.after hbc)
          have K1_158 := Lib.hid (K1_156.out.after hbc)
          have ROr_158 := Lib.hid (hr)
          clear hbc HB156 HR0_156 HR1_156 K0_156 K1_156 hb hr
          have COr := Lib.hid hc
          have MOr := Lib.hid hh
          clear hc hh
          have VOr : Hid (decide (hasP rOr s2) = false) := by
            show _ = _
            have h1 := MOr.out s2
            have h2 := HHX.out
            have h3 := HHY.out
            have h4 := HCN.out
            simp [h1, h2, h3]
          go_wp2_with fail
          refine (has_any AOr cOr rOr s2 _ ROr_158.out (by have := can_len COr.out; simp only [maxLen]; omega) _ VOr.out).mono ?_
          rintro e w159 ⟨rfl, hb⟩
          have hbc := hb
          have HB160 := Lib.hid (below_then HB158.out hbc (Nat.le_refl _))
          have HR0_160 := Lib.hid ((HR0_158.out.below hbc).lt)
          have HR1_160 := Lib.hid ((HR1_158.out.below hbc).lt)
          have K0_160 := Lib.hid (K0_158.out.after hbc)
          have K1_160 := Lib.hid (K1_158.out.after hbc)
          have ROr_160 := Lib.hid ((ROr_158.out.below hbc).lt)
          clear hbc HB158 HR0_158 HR1_158 K0_158 K1_158 ROr_158 hb
          have eK0_ := K0_160.out.cell 0
          have lK0_ := K0_160.out.lt
          simp at eK0_
          have eK1_ := K1_160.out.cell 0
          have lK1_ := K1_160.out.lt
          simp at eK1_
          go_wp2_with fail
          clear eK0_ lK0_
          clear eK1_ lK1_
          refine (and_any A0 A1 c0 c1 l0 l1 _ HR0_160.out HR1_160.out (by omega) (by omega)).mono ?_
          rintro e w161 ⟨AAnd, cAnd, rAnd, rfl, hc, hh, hr, hb⟩
          have hbc := hb
          have HB162 := Lib.hid (below_then HB160.out hbc (Nat.le_refl _))
          have HR0_162 := Lib.hid ((HR0_160.out.below hbc).lt)
          have HR1_162 := Lib.hid ((HR1_160.out.below hbc).lt)
          have K0_162 := Lib.hid (K0_160.out.after hbc)
          have K1_162 := Lib.hid (K1_160.out.after hbc)
          have ROr_162 := Lib.hid ((ROr_160.out.below hbc).lt)
          have RAnd_162 := Lib.hid (hr)
          clear hbc HB160 HR0_160 HR1_160 K0_160 K1_160 ROr_160 hb hr
          have CAnd := Lib.hid hc
          have MAnd := Lib.hid hh
          clear hc hh
          have VAnd : Hid (decide (hasP rAnd s2) = false) := by
            show _ = _
            have h1 := MAnd.out s2
            have h2 := HHX.out
            have h3 := HHY.out
            have h4 := HCN.out
            simp [h1, h2, h3]
          go_wp2_with fail
          refine (has_any AAnd cAnd rAnd s2 _ RAnd_162.out (by have := can_len CAnd.out; simp only [maxLen]; omega) _ VAnd.out).mono ?_
          rintro e w163 ⟨rfl, hb⟩
          have hbc := hb
          have HB164 := Lib.hid (below_then HB162.out hbc (Nat.le_refl _))
          have HR0_164 := Lib.hid ((HR0_162.out.below hbc).lt)
          have HR1_164 := Lib.hid ((HR1_162.out.below hbc).lt)
          have K0_164 := Lib.hid (K0_162.out.after hbc)
          have K1_164 := Lib.hid (K1_162.out.after hbc)
          have ROr_164 := Lib.hid ((ROr_162.out.below hbc).lt)
          have RAnd_164 := Lib.hid ((RAnd_162.out.below hbc).lt)
          clear hbc HB162 HR0_162 HR1_162 K0_162 K1_162 ROr_162 RAnd_162 hb
          have eK0_ := K0_164.out.cell 0
          have lK0_ := K0_164.out.lt
          simp at eK0_
          have eK1_ := K1_164.out.cell 0
          have lK1_ := K1_164.out.lt
          simp at eK1_
          go_wp2_with fail
          clear eK0_ lK0_
          clear eK1_ lK1_
          refine (minus_any A0 A1 c0 c1 l0 l1 _ HR0_164.out HR1_164.out (by omega) (by omega)).mono ?_
          rintro e w165 ⟨AMi, cMi, rMi, rfl, hc, hh, hr, hb⟩
          have hbc := hb
          have HB166 := Lib.hid (below_then HB164.out hbc (Nat.le_refl _))
          have HR0_166 := Lib.hid ((HR0_164.out.below hbc).lt)
          have HR1_166 := Lib.hid ((HR1_164.out.below hbc).lt)
          have K0_166 := Lib.hid (K0_164.out.after hbc)
          have K1_166 := Lib.hid (K1_164.out.after hbc)
          have ROr_166 := Lib.hid ((ROr_164.out.below hbc).lt)
          have RAnd_166 := Lib.hid ((RAnd_164.out.below hbc).lt)
          have RMi_166 := Lib.hid (hr)
          clear hbc HB164 HR0_164 HR1_164 K0_164 K1_164 ROr_164 RAnd_164 hb hr
          have CMi := Lib.hid hc
          have MMi := Lib.hid hh
          clear hc hh
          have VMi : Hid (decide (hasP rMi s2) = false) := by
            show _ = _
            have h1 := MMi.out s2
            have h2 := HHX.out
            have h3 := HHY.out
            have h4 := HCN.out
            simp [h1, h2, h3]
          go_wp2_with fail
          refine (has_any AMi cMi rMi s2 _ RMi_166.out (by have := can_len CMi.out; simp only [maxLen]; omega) _ VMi.out).mono ?_
          rintro e w167 ⟨rfl, hb⟩
          have hbc := hb
          have HB168 := Lib.hid (below_then HB166.out hbc (Nat.le_refl _))
          have HR0_168 := Lib.hid ((HR0_166.out.below hbc).lt)
          have HR1_168 := Lib.hid ((HR1_166.out.below hbc).lt)
          have K0_168 := Lib.hid (K0_166.out.after hbc)
          have K1_168 := Lib.hid (K1_166.out.after hbc)
          have ROr_168 := Lib.hid ((ROr_166.out.below hbc).lt)
          have RAnd_168 := Lib.hid ((RAnd_166.out.below hbc).lt)
          have RMi_168 := Lib.hid ((RMi_166.out.below hbc).lt)
          clear hbc HB166 HR0_166 HR1_166 K0_166 K1_166 ROr_166 RAnd_166 RMi_166 hb
          have eK0_ := K0_168.out.cell 0
          have lK0_ := K0_168.out.lt
          simp at eK0_
          have eK1_ := K1_168.out.cell 0
          have lK1_ := K1_168.out.lt
          simp at eK1_
          go_wp2_with fail
          clear eK0_ lK0_
          clear eK1_ lK1_
          refine (not_any A0 c0 l0 _ HR0_168.out (by omega)).mono ?_
          rintro e w169 ⟨ANo, cNo, rNo, rfl, hc, hh, hr, hb⟩
          have hbc := hb
          have HB170 := Lib.hid (below_then HB168.out hbc (Nat.le_refl _))
          have HR0_170 := Lib.hid ((HR0_168.out.below hbc).lt)
          have HR1_170 := Lib.hid ((HR1_168.out.below hbc).lt)
          have K0_170 := Lib.hid (K0_168.out.after hbc)
          have K1_170 := Lib.hid (K1_168.out.after hbc)
          have ROr_170 := Lib.hid ((ROr_168.out.below hbc).lt)
          have RAnd_170 := Lib.hid ((RAnd_168.out.below hbc).lt)
          have RMi_170 := Lib.hid ((RMi_168.out.below hbc).lt)
          have RNo_170 := Lib.hid (hr)
          clear hbc HB168 HR0_168 HR1_168 K0_168 K1_168 ROr_168 RAnd_168 RMi_168 hb hr
          have CNo := Lib.hid hc
          have MNo := Lib.hid hh
          clear hc hh
          have VNo : Hid (decide (hasP rNo s2) = true) := by
            show _ = _
            have h1 := MNo.out s2
            have h2 := HHX.out
            have h3 := HHY.out
            have h4 := HCN.out
            simp [h1, h2, h4]
          go_wp2_with fail
          refine (has_any ANo cNo rNo s2 _ RNo_170.out (by have := can_len CNo.out; simp only [maxLen]; omega) _ VNo.out).mono ?_
          rintro e w171 ⟨rfl, hb⟩
          have hbc := hb
          have HB172 := Lib.hid (below_then HB170.out hbc (Nat.le_refl _))
          have HR0_172 := Lib.hid ((HR0_170.out.below hbc).lt)
          have HR1_172 := Lib.hid ((HR1_170.out.below hbc).lt)
          have K0_172 := Lib.hid (K0_170.out.after hbc)
          have K1_172 := Lib.hid (K1_170.out.after hbc)
          have ROr_172 := Lib.hid ((ROr_170.out.below hbc).lt)
          have RAnd_172 := Lib.hid ((RAnd_170.out.below hbc).lt)
          have RMi_172 := Lib.hid ((RMi_170.out.below hbc).lt)
          have RNo_172 := Lib.hid ((RNo_170.out.below hbc).lt)
          clear hbc HB170 HR0_170 HR1_170 K0_170 K1_170 ROr_170 RAnd_170 RMi_170 RNo_170 hb
          go_wp2_with fail
          refine (alive_any _ (HD.out.below HB172.out) (HM.out.below HB172.out)).mono ?_
          rintro e w173 ⟨rfl, hb⟩
          have hbc := hb
          have HB174 := Lib.hid (below_then HB172.out hbc (Nat.le_refl _))
          have HR0_174 := Lib.hid ((HR0_172.out.below hbc).lt)
          have HR1_174 := Lib.hid ((HR1_172.out.below hbc).lt)
          have K0_174 := Lib.hid (K0_172.out.after hbc)
          have K1_174 := Lib.hid (K1_172.out.after hbc)
          have ROr_174 := Lib.hid ((ROr_172.out.below hbc).lt)
          have RAnd_174 := Lib.hid ((RAnd_172.out.below hbc).lt)
          have RMi_174 := Lib.hid ((RMi_172.out.below hbc).lt)
          have RNo_174 := Lib.hid ((RNo_172.out.below hbc).lt)
          clear hbc HB172 HR0_172 HR1_172 K0_172 K1_172 ROr_172 RAnd_172 RMi_172 RNo_172 hb
          go_wp2
          go_ret
          exact ⟨rfl, HB174.out⟩
end Go.Proofs.YtogfhaeohcpkjaaDoor.LPoints
